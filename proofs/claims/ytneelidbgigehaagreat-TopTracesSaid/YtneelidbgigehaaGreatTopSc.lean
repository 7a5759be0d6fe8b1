/- The small functions of the top statements, walked: scaled. (joined: TopScale TopSq) -/
import Derived.Test.YtneelidbgigehaaGreatTrcTr
/- The small functions of the top statements, walked: scaled. -/
namespace Go.Proofs.YtneelidbgigehaaGreat
set_option linter.unusedSimpArgs false
set_option linter.unusedVariables false
set_option maxRecDepth 100000
open Go.RowKit Trc Runs Reg Ras
attribute [local go_sem] Kin.cell Kin.frozen Kin.lt0 Kin.lt1 Kin.lt2 Kin.lt3 run_mkf
theorem Blk.al_ {w : World} {g : Nat} {t : TypeId} {cs : Array Value} (h : Blk w g t cs) (o : Obj) : Blk (w.alloc o) g t cs := h.below (Below.alloc (Below.refl _ _) (Nat.le_refl _) _)
set_option maxHeartbeats 8000000 in
theorem scaled_any (v : Value) (l : List (List Pt)) (c : Int) (w : World) (h : RdPols w v l) (hl : l.length ≤ 16384) (hm : ptsN l ≤ 16384) (hc : 0 ≤ c ∧ c ≤ 1024) (hb : ∀ o ∈ l, ∀ p ∈ o, near6 p) :
    Calls Tryz.prog 9 #[v, .int .i64 c] w fun e w' => (∃ u, e = .returned u ∧ RdPols w' u (scaleL c l)) ∧ Below w.heap.size w w' := by
  obtain ⟨A, capA, rfl, hcapA, hop⟩ := pols_open h
  have HA := Lib.hid hop
  obtain ⟨n, hn⟩ : ∃ n, l.length = n := ⟨_, rfl⟩
  have HN := Lib.hid hn
  have HNB := Lib.hid hb
  rw [hn] at hcapA hl ⊢
  have HPM := Lib.hid (fun o (ho : o ∈ l) => Nat.le_trans (ptsN_mem ho) hm)
  clear hop hn h hb
  go_enter Tryz.func9, Tryz.ntmps9
  go_wp2_with fail
  go_loopw [5, 6] (fun u i wr => ∃ k : Nat, k ≤ n ∧ i = .int .i64 k ∧ Hid (OutP w.heap.size wr u (scaleL c (l.take k))) ∧ ∃ y : Kin w, y.1 = wr) (fun _ i _ => n - (intOf i).toNat)
  case atStart => exact ⟨0, Nat.zero_le _, rfl, Lib.hid (OutP.nil _ _), ⟨w, Below.refl _ _⟩, rfl⟩
  case round =>
    obtain ⟨k, hk, rfl, HO, y, rfl⟩ := hrel
    by_cases hlt : k < n
    · obtain ⟨o, ho⟩ : ∃ o, l[k]? = some o := ⟨_, List.getElem?_eq_getElem (by rw [HN.out]; exact hlt)⟩
      obtain ⟨bA, offA, rfl, hbA, hcA⟩ := HA.out k o ho
      obtain ⟨S, cS, o_0, hcS, hrS⟩ := hcA k o ho
      have h20 := HPM.out o (List.mem_of_getElem? ho)
      obtain ⟨m, hm⟩ : ∃ m, o.length = m := ⟨_, rfl⟩
      rw [hm] at o_0 hcS hrS h20
      have HOO := Lib.hid ho
      have HM := Lib.hid hm
      have HRS := Lib.hid hrS
      clear hcA ho hm hrS
      go_wp2_with fail
      obtain ⟨Y, hY⟩ : ∃ Y, y.1 = Y := ⟨_, rfl⟩
      have hyk := y.2
      rw [hY] at hyk HO ⊢
      obtain ⟨Y2, hY2⟩ : ∃ Y2, Y.alloc (.cells #[.slice none 0 0] 53) = Y2 := ⟨_, rfl⟩
      obtain ⟨gq, hgq⟩ : ∃ gq, Y.heap.size = gq := ⟨_, rfl⟩
      have hbq : Blk Y2 gq 53 #[.slice none 0 0] := by rw [← hY2, ← hgq]; exact Blk.new _ _ _
      have hby : Below Y.heap.size Y Y2 := hY2 ▸ (Below.refl _ _).alloc (Nat.le_refl _) _
      have HBQ := Lib.hid hbq
      have HBY := Lib.hid hby
      have HYK := Lib.hid hyk
      have HGQ := Lib.hid hgq
      rw [hY2, hgq]
      clear hY hyk hY2 hgq hbq hby
      go_loopw [8] (fun kv wr => ∃ (j : Nat) (A2 : Option Addr) (q2 c2 : Nat), j ≤ m ∧ kv = .int .i64 j ∧ Hid (Blk wr gq 53 #[.slice A2 q2 c2]) ∧ Hid (wr.ownsRow (gq + 1) 60 2 (.slice A2 q2 c2) q2 (((o.take j).map (sc c)).flatMap encPt)) ∧ q2 = j ∧ Hid (Below Y.heap.size Y wr)) (fun kv _ => m - (intOf kv).toNat)
      case atStart => exact ⟨0, none, 0, 0, Nat.zero_le _, rfl, HBQ, Lib.hid (World.ownsRow_nil _ _ _ _), rfl, HBY⟩
      case round =>
        clear HBQ HBY
        obtain ⟨j, A2, q2, c2, hj, rfl, HBQ, HOQ, rfl, HYW⟩ := hrel
        have hyw : Below w.heap.size w wr := HYK.out.trans (HYW.out.mono HYK.out.size)
        have w_o : wr.cell? ⟨bA, offA + k, none⟩ = some (.slice S m cS) := (hyw.cell (p := ⟨bA, offA + k, none⟩) hbA).trans o_0
        have hbA2 : bA < wr.heap.size := Nat.lt_of_lt_of_le hbA hyw.size
        have HYW2 := Lib.hid hyw
        clear hyw
        by_cases hjm : q2 < m
        · obtain ⟨a, ha⟩ : ∃ a, o[q2]? = some a := ⟨_, List.getElem?_eq_getElem (by rw [HM.out]; exact hjm)⟩
          obtain ⟨bS, offS, rfl, hbS, hcc⟩ := Rd.op HRS.out q2 a ha
          have a_0 : w.cell? ⟨bS, offS + q2 * 2, none⟩ = some (.int .i64 a.1) := hcc q2 a ha 0 _ rfl
          have a_1 : w.cell? ⟨bS, offS + q2 * 2 + 1, none⟩ = some (.int .i64 a.2) := hcc q2 a ha 1 _ rfl
          have hna := HNB.out o (List.mem_of_getElem? HOO.out) a (List.mem_of_getElem? ha)
          unfold near6 at hna
          have b1 : -6144000 ≤ a.1 * c ∧ a.1 * c ≤ 6144000 := by
            constructor
            · have h1 : (-6000) * c ≤ a.1 * c := Int.mul_le_mul_of_nonneg_right hna.1 hc.1
              omega
            · have h1 : a.1 * c ≤ 6000 * c := Int.mul_le_mul_of_nonneg_right hna.2.1 hc.1
              omega
          have b2 : -6144000 ≤ a.2 * c ∧ a.2 * c ≤ 6144000 := by
            constructor
            · have h1 : (-6000) * c ≤ a.2 * c := Int.mul_le_mul_of_nonneg_right hna.2.2.1 hc.1
              omega
            · have h1 : a.2 * c ≤ 6000 * c := Int.mul_le_mul_of_nonneg_right hna.2.2.2 hc.1
              omega
          have e1 : IntKind.i64.wrap (a.1 * c) = a.1 * c := IntWalk.i64_in _ (by omega)
          have e2 : IntKind.i64.wrap (a.2 * c) = a.2 * c := IntWalk.i64_in _ (by omega)
          have HTK := Lib.hid (show ((o.take q2).map (sc c)) ++ [sc c a] = (o.take (q2 + 1)).map (sc c) by rw [List.take_add_one, ha]; simp)
          have mixed : Tryz.prog.follows .mixedOrders = true := by kernel_rfl
          clear hcc ha hna b1 b2
          go_wp2_with fail
          refine wp_region_heldT (S := fun w' => Below w.heap.size w w' ∧ Blk w' gq 53 #[.slice A2 q2 c2]) 28 (by kernel_rfl) (⟨HYW2.out.drew, HBQ.out.below ((Below.refl _ _).drew)⟩) (fun hHeld => ?_)
          try simp only [List.size_toArray, List.length_cons, List.length_nil, Nat.zero_add, Nat.reduceAdd, List.replicate, Array.replicate]
          obtain ⟨W6, hW6⟩ : ∃ W6, wr.drew = W6 := ⟨_, rfl⟩
          rw [hW6] at hHeld ⊢
          have hb56 : Below wr.heap.size wr W6 := hW6 ▸ (Below.refl _ _).drew
          have HB56 := Lib.hid hb56
          have HOQ7 := Lib.hid (show W6.ownsRow (gq + 1) 60 2 (.slice A2 q2 c2) ((o.take q2).map (sc c)).length (((o.take q2).map (sc c)).flatMap encPt) by
            have e : ((o.take q2).map (sc c)).length = q2 := by rw [List.length_map, List.length_take, HM.out]; omega
            rw [e]; exact own_below HOQ.out hb56)
          have hgs6 : gq + 1 ≤ W6.heap.size := Nat.le_trans HBQ.out.lt hb56.size
          have hlow : w.heap.size ≤ gq + 1 := by have := HYK.out.size; rw [HGQ.out] at this; omega
          have hl4 : ((o.take q2).map (sc c)).length ≤ 16384 := by rw [List.length_map, List.length_take]; omega
          clear hW6 hb56
          refine wpAnyT_take (m := 28) (i := 0) (v := ?_) (by kernel_rfl) (by decide) rfl (by kernel_rfl) (by kernel_rfl) (by kernel_rfl) (fun _ _ _ h => h) (Or.inl ⟨by kernel_rfl, ?_⟩) (by assumption) ?_
          rotate_left
          · (intro w' hSw; obtain ⟨S1, S2⟩ := hSw; have r0 : w'.cell? ⟨gq, 0, none⟩ = some (.slice A2 q2 c2) := S2.cell 0; have r1 := (S1.cell (p := ⟨bA, offA + k, none⟩) hbA).trans o_0; have r2 := (S1.cell (p := ⟨bS, offS + q2 * 2, none⟩) hbS).trans a_0; have r3 := (S1.cell (p := ⟨bS, offS + q2 * 2 + 1, none⟩) hbS).trans a_1; clear S1 S2; go_simp; try with_reducible rfl)
          try simp only [List.getElem_toArray, List.getElem_cons_succ, List.getElem_cons_zero, Act.put, List.setIfInBounds_toArray, List.set_cons_zero, List.set_cons_succ]
          refine wpAnyT_take (m := 28) (i := 1) (v := ?_) (by kernel_rfl) (by decide) rfl (by kernel_rfl) (by kernel_rfl) (by kernel_rfl) (fun _ _ _ h => h) (Or.inl ⟨by kernel_rfl, ?_⟩) (by assumption) ?_
          rotate_left
          · (intro w' hSw; obtain ⟨S1, S2⟩ := hSw; have r0 : w'.cell? ⟨gq, 0, none⟩ = some (.slice A2 q2 c2) := S2.cell 0; have r1 := (S1.cell (p := ⟨bA, offA + k, none⟩) hbA).trans o_0; have r2 := (S1.cell (p := ⟨bS, offS + q2 * 2, none⟩) hbS).trans a_0; have r3 := (S1.cell (p := ⟨bS, offS + q2 * 2 + 1, none⟩) hbS).trans a_1; clear S1 S2; go_simp; try with_reducible rfl)
          try simp only [List.getElem_toArray, List.getElem_cons_succ, List.getElem_cons_zero, Act.put, List.setIfInBounds_toArray, List.set_cons_zero, List.set_cons_succ]
          refine wpAnyT_take (m := 28) (i := 2) (v := ?_) (by kernel_rfl) (by decide) rfl (by kernel_rfl) (by kernel_rfl) (by kernel_rfl) (fun _ _ _ h => h) (Or.inl ⟨by kernel_rfl, ?_⟩) (by assumption) ?_
          rotate_left
          · (intro w' hSw; obtain ⟨S1, S2⟩ := hSw; have r0 : w'.cell? ⟨gq, 0, none⟩ = some (.slice A2 q2 c2) := S2.cell 0; have r1 := (S1.cell (p := ⟨bA, offA + k, none⟩) hbA).trans o_0; have r2 := (S1.cell (p := ⟨bS, offS + q2 * 2, none⟩) hbS).trans a_0; have r3 := (S1.cell (p := ⟨bS, offS + q2 * 2 + 1, none⟩) hbS).trans a_1; clear S1 S2; go_simp; try with_reducible rfl)
          try simp only [List.getElem_toArray, List.getElem_cons_succ, List.getElem_cons_zero, Act.put, List.setIfInBounds_toArray, List.set_cons_zero, List.set_cons_succ]
          refine wpAnyT_take (m := 28) (i := 3) (v := ?_) (by kernel_rfl) (by decide) rfl (by kernel_rfl) (by kernel_rfl) (by kernel_rfl) (fun _ _ _ h => h) (Or.inl ⟨by kernel_rfl, ?_⟩) (by assumption) ?_
          rotate_left
          · (intro w' hSw; obtain ⟨S1, S2⟩ := hSw; have r0 : w'.cell? ⟨gq, 0, none⟩ = some (.slice A2 q2 c2) := S2.cell 0; have r1 := (S1.cell (p := ⟨bA, offA + k, none⟩) hbA).trans o_0; have r2 := (S1.cell (p := ⟨bS, offS + q2 * 2, none⟩) hbS).trans a_0; have r3 := (S1.cell (p := ⟨bS, offS + q2 * 2 + 1, none⟩) hbS).trans a_1; clear S1 S2; go_simp; try with_reducible rfl)
          try simp only [List.getElem_toArray, List.getElem_cons_succ, List.getElem_cons_zero, Act.put, List.setIfInBounds_toArray, List.set_cons_zero, List.set_cons_succ]
          refine wpAnyT_take (m := 28) (i := 4) (v := ?_) (by kernel_rfl) (by decide) rfl (by kernel_rfl) (by kernel_rfl) (by kernel_rfl) (fun _ _ _ h => h) (Or.inl ⟨by kernel_rfl, ?_⟩) (by assumption) ?_
          rotate_left
          · (intro w' hSw; obtain ⟨S1, S2⟩ := hSw; have r0 : w'.cell? ⟨gq, 0, none⟩ = some (.slice A2 q2 c2) := S2.cell 0; have r1 := (S1.cell (p := ⟨bA, offA + k, none⟩) hbA).trans o_0; have r2 := (S1.cell (p := ⟨bS, offS + q2 * 2, none⟩) hbS).trans a_0; have r3 := (S1.cell (p := ⟨bS, offS + q2 * 2 + 1, none⟩) hbS).trans a_1; clear S1 S2; go_simp; try with_reducible rfl)
          try simp only [List.getElem_toArray, List.getElem_cons_succ, List.getElem_cons_zero, Act.put, List.setIfInBounds_toArray, List.set_cons_zero, List.set_cons_succ]
          refine wpAnyT_take (m := 28) (i := 5) (v := ?_) (by kernel_rfl) (by decide) rfl (by kernel_rfl) (by kernel_rfl) (by kernel_rfl) (fun _ _ _ h => h) (Or.inl ⟨by kernel_rfl, ?_⟩) (by assumption) ?_
          rotate_left
          · (intro w' hSw; obtain ⟨S1, S2⟩ := hSw; have r0 : w'.cell? ⟨gq, 0, none⟩ = some (.slice A2 q2 c2) := S2.cell 0; have r1 := (S1.cell (p := ⟨bA, offA + k, none⟩) hbA).trans o_0; have r2 := (S1.cell (p := ⟨bS, offS + q2 * 2, none⟩) hbS).trans a_0; have r3 := (S1.cell (p := ⟨bS, offS + q2 * 2 + 1, none⟩) hbS).trans a_1; clear S1 S2; go_simp; try with_reducible rfl)
          try simp only [List.getElem_toArray, List.getElem_cons_succ, List.getElem_cons_zero, Act.put, List.setIfInBounds_toArray, List.set_cons_zero, List.set_cons_succ]
          refine wpAnyT_take (m := 28) (i := 6) (v := ?_) (by kernel_rfl) (by decide) rfl (by kernel_rfl) (by kernel_rfl) (by kernel_rfl) (fun _ _ _ h => h) (Or.inl ⟨by kernel_rfl, ?_⟩) (by assumption) ?_
          rotate_left
          · (intro w' hSw; obtain ⟨S1, S2⟩ := hSw; have r0 : w'.cell? ⟨gq, 0, none⟩ = some (.slice A2 q2 c2) := S2.cell 0; have r1 := (S1.cell (p := ⟨bA, offA + k, none⟩) hbA).trans o_0; have r2 := (S1.cell (p := ⟨bS, offS + q2 * 2, none⟩) hbS).trans a_0; have r3 := (S1.cell (p := ⟨bS, offS + q2 * 2 + 1, none⟩) hbS).trans a_1; clear S1 S2; go_simp; try with_reducible rfl)
          try simp only [List.getElem_toArray, List.getElem_cons_succ, List.getElem_cons_zero, Act.put, List.setIfInBounds_toArray, List.set_cons_zero, List.set_cons_succ]
          refine wpAnyT_take (m := 28) (i := 7) (v := ?_) (by kernel_rfl) (by decide) rfl (by kernel_rfl) (by kernel_rfl) (by kernel_rfl) (fun _ _ _ h => h) (Or.inl ⟨by kernel_rfl, ?_⟩) (by assumption) ?_
          rotate_left
          · (intro w' hSw; obtain ⟨S1, S2⟩ := hSw; have r0 : w'.cell? ⟨gq, 0, none⟩ = some (.slice A2 q2 c2) := S2.cell 0; have r1 := (S1.cell (p := ⟨bA, offA + k, none⟩) hbA).trans o_0; have r2 := (S1.cell (p := ⟨bS, offS + q2 * 2, none⟩) hbS).trans a_0; have r3 := (S1.cell (p := ⟨bS, offS + q2 * 2 + 1, none⟩) hbS).trans a_1; clear S1 S2; go_simp; try with_reducible rfl)
          try simp only [List.getElem_toArray, List.getElem_cons_succ, List.getElem_cons_zero, Act.put, List.setIfInBounds_toArray, List.set_cons_zero, List.set_cons_succ]
          refine wpAnyT_take (m := 28) (i := 8) (v := ?_) (by kernel_rfl) (by decide) rfl (by kernel_rfl) (by kernel_rfl) (by kernel_rfl) (fun _ _ _ h => h) (Or.inl ⟨by kernel_rfl, ?_⟩) (by assumption) ?_
          rotate_left
          · (intro w' hSw; obtain ⟨S1, S2⟩ := hSw; have r0 : w'.cell? ⟨gq, 0, none⟩ = some (.slice A2 q2 c2) := S2.cell 0; have r1 := (S1.cell (p := ⟨bA, offA + k, none⟩) hbA).trans o_0; have r2 := (S1.cell (p := ⟨bS, offS + q2 * 2, none⟩) hbS).trans a_0; have r3 := (S1.cell (p := ⟨bS, offS + q2 * 2 + 1, none⟩) hbS).trans a_1; clear S1 S2; go_simp; try with_reducible rfl)
          try simp only [List.getElem_toArray, List.getElem_cons_succ, List.getElem_cons_zero, Act.put, List.setIfInBounds_toArray, List.set_cons_zero, List.set_cons_succ]
          refine wpAnyT_take (m := 28) (i := 9) (v := ?_) (by kernel_rfl) (by decide) rfl (by kernel_rfl) (by kernel_rfl) (by kernel_rfl) (fun _ _ _ h => h) (Or.inl ⟨by kernel_rfl, ?_⟩) (by assumption) ?_
          rotate_left
          · (intro w' hSw; obtain ⟨S1, S2⟩ := hSw; have r0 : w'.cell? ⟨gq, 0, none⟩ = some (.slice A2 q2 c2) := S2.cell 0; have r1 := (S1.cell (p := ⟨bA, offA + k, none⟩) hbA).trans o_0; have r2 := (S1.cell (p := ⟨bS, offS + q2 * 2, none⟩) hbS).trans a_0; have r3 := (S1.cell (p := ⟨bS, offS + q2 * 2 + 1, none⟩) hbS).trans a_1; clear S1 S2; go_simp; try with_reducible rfl)
          try simp only [List.getElem_toArray, List.getElem_cons_succ, List.getElem_cons_zero, Act.put, List.setIfInBounds_toArray, List.set_cons_zero, List.set_cons_succ]
          refine wpAnyT_take (m := 28) (i := 10) (v := ?_) (by kernel_rfl) (by decide) rfl (by kernel_rfl) (by kernel_rfl) (by kernel_rfl) (fun _ _ _ h => h) (Or.inl ⟨by kernel_rfl, ?_⟩) (by assumption) ?_
          rotate_left
          · (intro w' hSw; obtain ⟨S1, S2⟩ := hSw; have r0 : w'.cell? ⟨gq, 0, none⟩ = some (.slice A2 q2 c2) := S2.cell 0; have r1 := (S1.cell (p := ⟨bA, offA + k, none⟩) hbA).trans o_0; have r2 := (S1.cell (p := ⟨bS, offS + q2 * 2, none⟩) hbS).trans a_0; have r3 := (S1.cell (p := ⟨bS, offS + q2 * 2 + 1, none⟩) hbS).trans a_1; clear S1 S2; go_simp; try with_reducible rfl)
          try simp only [List.getElem_toArray, List.getElem_cons_succ, List.getElem_cons_zero, Act.put, List.setIfInBounds_toArray, List.set_cons_zero, List.set_cons_succ]
          refine wpAnyT_take (m := 28) (i := 11) (v := ?_) (by kernel_rfl) (by decide) rfl (by kernel_rfl) (by kernel_rfl) (by kernel_rfl) (fun _ _ _ h => h) (Or.inl ⟨by kernel_rfl, ?_⟩) (by assumption) ?_
          rotate_left
          · (intro w' hSw; obtain ⟨S1, S2⟩ := hSw; have r0 : w'.cell? ⟨gq, 0, none⟩ = some (.slice A2 q2 c2) := S2.cell 0; have r1 := (S1.cell (p := ⟨bA, offA + k, none⟩) hbA).trans o_0; have r2 := (S1.cell (p := ⟨bS, offS + q2 * 2, none⟩) hbS).trans a_0; have r3 := (S1.cell (p := ⟨bS, offS + q2 * 2 + 1, none⟩) hbS).trans a_1; clear S1 S2; go_simp; try with_reducible rfl)
          try simp only [List.getElem_toArray, List.getElem_cons_succ, List.getElem_cons_zero, Act.put, List.setIfInBounds_toArray, List.set_cons_zero, List.set_cons_succ]
          refine wpAnyT_take (m := 28) (i := 12) (v := ?_) (by kernel_rfl) (by decide) rfl (by kernel_rfl) (by kernel_rfl) (by kernel_rfl) (fun _ _ _ h => h) (Or.inl ⟨by kernel_rfl, ?_⟩) (by assumption) ?_
          rotate_left
          · (intro w' hSw; obtain ⟨S1, S2⟩ := hSw; have r0 : w'.cell? ⟨gq, 0, none⟩ = some (.slice A2 q2 c2) := S2.cell 0; have r1 := (S1.cell (p := ⟨bA, offA + k, none⟩) hbA).trans o_0; have r2 := (S1.cell (p := ⟨bS, offS + q2 * 2, none⟩) hbS).trans a_0; have r3 := (S1.cell (p := ⟨bS, offS + q2 * 2 + 1, none⟩) hbS).trans a_1; clear S1 S2; go_simp; try with_reducible rfl)
          try simp only [List.getElem_toArray, List.getElem_cons_succ, List.getElem_cons_zero, Act.put, List.setIfInBounds_toArray, List.set_cons_zero, List.set_cons_succ]
          refine wpAnyT_take (m := 28) (i := 13) (v := ?_) (by kernel_rfl) (by decide) rfl (by kernel_rfl) (by kernel_rfl) (by kernel_rfl) (fun _ _ _ h => h) (Or.inl ⟨by kernel_rfl, ?_⟩) (by assumption) ?_
          rotate_left
          · (intro w' hSw; obtain ⟨S1, S2⟩ := hSw; have r0 : w'.cell? ⟨gq, 0, none⟩ = some (.slice A2 q2 c2) := S2.cell 0; have r1 := (S1.cell (p := ⟨bA, offA + k, none⟩) hbA).trans o_0; have r2 := (S1.cell (p := ⟨bS, offS + q2 * 2, none⟩) hbS).trans a_0; have r3 := (S1.cell (p := ⟨bS, offS + q2 * 2 + 1, none⟩) hbS).trans a_1; clear S1 S2; go_simp; try with_reducible rfl)
          try simp only [List.getElem_toArray, List.getElem_cons_succ, List.getElem_cons_zero, Act.put, List.setIfInBounds_toArray, List.set_cons_zero, List.set_cons_succ]
          refine wpAnyT_take (m := 28) (i := 14) (v := ?_) (by kernel_rfl) (by decide) rfl (by kernel_rfl) (by kernel_rfl) (by kernel_rfl) (fun _ _ _ h => h) (Or.inl ⟨by kernel_rfl, ?_⟩) (by assumption) ?_
          rotate_left
          · (intro w' hSw; obtain ⟨S1, S2⟩ := hSw; have r0 : w'.cell? ⟨gq, 0, none⟩ = some (.slice A2 q2 c2) := S2.cell 0; have r1 := (S1.cell (p := ⟨bA, offA + k, none⟩) hbA).trans o_0; have r2 := (S1.cell (p := ⟨bS, offS + q2 * 2, none⟩) hbS).trans a_0; have r3 := (S1.cell (p := ⟨bS, offS + q2 * 2 + 1, none⟩) hbS).trans a_1; clear S1 S2; go_simp; try with_reducible rfl)
          try simp only [List.getElem_toArray, List.getElem_cons_succ, List.getElem_cons_zero, Act.put, List.setIfInBounds_toArray, List.set_cons_zero, List.set_cons_succ]
          refine wpAnyT_take (m := 28) (i := 15) (v := ?_) (by kernel_rfl) (by decide) rfl (by kernel_rfl) (by kernel_rfl) (by kernel_rfl) (fun _ _ _ h => h) (Or.inl ⟨by kernel_rfl, ?_⟩) (by assumption) ?_
          rotate_left
          · (intro w' hSw; obtain ⟨S1, S2⟩ := hSw; have r0 : w'.cell? ⟨gq, 0, none⟩ = some (.slice A2 q2 c2) := S2.cell 0; have r1 := (S1.cell (p := ⟨bA, offA + k, none⟩) hbA).trans o_0; have r2 := (S1.cell (p := ⟨bS, offS + q2 * 2, none⟩) hbS).trans a_0; have r3 := (S1.cell (p := ⟨bS, offS + q2 * 2 + 1, none⟩) hbS).trans a_1; clear S1 S2; go_simp; try with_reducible rfl)
          try simp only [List.getElem_toArray, List.getElem_cons_succ, List.getElem_cons_zero, Act.put, List.setIfInBounds_toArray, List.set_cons_zero, List.set_cons_succ]
          refine wpAnyT_take (m := 28) (i := 16) (v := ?_) (by kernel_rfl) (by decide) rfl (by kernel_rfl) (by kernel_rfl) (by kernel_rfl) (fun _ _ _ h => h) (Or.inl ⟨by kernel_rfl, ?_⟩) (by assumption) ?_
          rotate_left
          · (intro w' hSw; obtain ⟨S1, S2⟩ := hSw; have r0 : w'.cell? ⟨gq, 0, none⟩ = some (.slice A2 q2 c2) := S2.cell 0; have r1 := (S1.cell (p := ⟨bA, offA + k, none⟩) hbA).trans o_0; have r2 := (S1.cell (p := ⟨bS, offS + q2 * 2, none⟩) hbS).trans a_0; have r3 := (S1.cell (p := ⟨bS, offS + q2 * 2 + 1, none⟩) hbS).trans a_1; clear S1 S2; go_simp; try with_reducible rfl)
          try simp only [List.getElem_toArray, List.getElem_cons_succ, List.getElem_cons_zero, Act.put, List.setIfInBounds_toArray, List.set_cons_zero, List.set_cons_succ]
          refine wpAnyT_take (m := 28) (i := 17) (v := ?_) (by kernel_rfl) (by decide) rfl (by kernel_rfl) (by kernel_rfl) (by kernel_rfl) (fun _ _ _ h => h) (Or.inl ⟨by kernel_rfl, ?_⟩) (by assumption) ?_
          rotate_left
          · (intro w' hSw; obtain ⟨S1, S2⟩ := hSw; have r0 : w'.cell? ⟨gq, 0, none⟩ = some (.slice A2 q2 c2) := S2.cell 0; have r1 := (S1.cell (p := ⟨bA, offA + k, none⟩) hbA).trans o_0; have r2 := (S1.cell (p := ⟨bS, offS + q2 * 2, none⟩) hbS).trans a_0; have r3 := (S1.cell (p := ⟨bS, offS + q2 * 2 + 1, none⟩) hbS).trans a_1; clear S1 S2; go_simp; try with_reducible rfl)
          try simp only [List.getElem_toArray, List.getElem_cons_succ, List.getElem_cons_zero, Act.put, List.setIfInBounds_toArray, List.set_cons_zero, List.set_cons_succ]
          refine wpAnyT_take (m := 28) (i := 18) (v := ?_) (by kernel_rfl) (by decide) rfl (by kernel_rfl) (by kernel_rfl) (by kernel_rfl) (fun _ _ _ h => h) (Or.inl ⟨by kernel_rfl, ?_⟩) (by assumption) ?_
          rotate_left
          · (intro w' hSw; obtain ⟨S1, S2⟩ := hSw; have r0 : w'.cell? ⟨gq, 0, none⟩ = some (.slice A2 q2 c2) := S2.cell 0; have r1 := (S1.cell (p := ⟨bA, offA + k, none⟩) hbA).trans o_0; have r2 := (S1.cell (p := ⟨bS, offS + q2 * 2, none⟩) hbS).trans a_0; have r3 := (S1.cell (p := ⟨bS, offS + q2 * 2 + 1, none⟩) hbS).trans a_1; clear S1 S2; go_simp; try with_reducible rfl)
          try simp only [List.getElem_toArray, List.getElem_cons_succ, List.getElem_cons_zero, Act.put, List.setIfInBounds_toArray, List.set_cons_zero, List.set_cons_succ]
          refine wpAnyT_take (m := 28) (i := 19) (v := ?_) (by kernel_rfl) (by decide) rfl (by kernel_rfl) (by kernel_rfl) (by kernel_rfl) (fun _ _ _ h => h) (Or.inl ⟨by kernel_rfl, ?_⟩) (by assumption) ?_
          rotate_left
          · (intro w' hSw; obtain ⟨S1, S2⟩ := hSw; have r0 : w'.cell? ⟨gq, 0, none⟩ = some (.slice A2 q2 c2) := S2.cell 0; have r1 := (S1.cell (p := ⟨bA, offA + k, none⟩) hbA).trans o_0; have r2 := (S1.cell (p := ⟨bS, offS + q2 * 2, none⟩) hbS).trans a_0; have r3 := (S1.cell (p := ⟨bS, offS + q2 * 2 + 1, none⟩) hbS).trans a_1; clear S1 S2; go_simp; try with_reducible rfl)
          try simp only [List.getElem_toArray, List.getElem_cons_succ, List.getElem_cons_zero, Act.put, List.setIfInBounds_toArray, List.set_cons_zero, List.set_cons_succ]
          refine wpAnyT_take (m := 28) (i := 20) (v := ?_) (by kernel_rfl) (by decide) rfl (by kernel_rfl) (by kernel_rfl) (by kernel_rfl) (fun _ _ _ h => h) (Or.inl ⟨by kernel_rfl, ?_⟩) (by assumption) ?_
          rotate_left
          · (intro w' hSw; obtain ⟨S1, S2⟩ := hSw; have r0 : w'.cell? ⟨gq, 0, none⟩ = some (.slice A2 q2 c2) := S2.cell 0; have r1 := (S1.cell (p := ⟨bA, offA + k, none⟩) hbA).trans o_0; have r2 := (S1.cell (p := ⟨bS, offS + q2 * 2, none⟩) hbS).trans a_0; have r3 := (S1.cell (p := ⟨bS, offS + q2 * 2 + 1, none⟩) hbS).trans a_1; clear S1 S2; go_simp; try with_reducible rfl)
          try simp only [List.getElem_toArray, List.getElem_cons_succ, List.getElem_cons_zero, Act.put, List.setIfInBounds_toArray, List.set_cons_zero, List.set_cons_succ]
          refine wpAnyT_take (m := 28) (i := 21) (v := ?_) (by kernel_rfl) (by decide) rfl (by kernel_rfl) (by kernel_rfl) (by kernel_rfl) (fun _ _ _ h => h) (Or.inl ⟨by kernel_rfl, ?_⟩) (by assumption) ?_
          rotate_left
          · (intro w' hSw; obtain ⟨S1, S2⟩ := hSw; have r0 : w'.cell? ⟨gq, 0, none⟩ = some (.slice A2 q2 c2) := S2.cell 0; have r1 := (S1.cell (p := ⟨bA, offA + k, none⟩) hbA).trans o_0; have r2 := (S1.cell (p := ⟨bS, offS + q2 * 2, none⟩) hbS).trans a_0; have r3 := (S1.cell (p := ⟨bS, offS + q2 * 2 + 1, none⟩) hbS).trans a_1; clear S1 S2; go_simp; try with_reducible rfl)
          try simp only [List.getElem_toArray, List.getElem_cons_succ, List.getElem_cons_zero, Act.put, List.setIfInBounds_toArray, List.set_cons_zero, List.set_cons_succ]
          refine wpAnyT_take (m := 28) (i := 22) (v := ?_) (by kernel_rfl) (by decide) rfl (by kernel_rfl) (by kernel_rfl) (by kernel_rfl) (fun _ _ _ h => h) (Or.inl ⟨by kernel_rfl, ?_⟩) (by assumption) ?_
          rotate_left
          · (intro w' hSw; obtain ⟨S1, S2⟩ := hSw; have r0 : w'.cell? ⟨gq, 0, none⟩ = some (.slice A2 q2 c2) := S2.cell 0; have r1 := (S1.cell (p := ⟨bA, offA + k, none⟩) hbA).trans o_0; have r2 := (S1.cell (p := ⟨bS, offS + q2 * 2, none⟩) hbS).trans a_0; have r3 := (S1.cell (p := ⟨bS, offS + q2 * 2 + 1, none⟩) hbS).trans a_1; clear S1 S2; go_simp; try with_reducible rfl)
          try simp only [List.getElem_toArray, List.getElem_cons_succ, List.getElem_cons_zero, Act.put, List.setIfInBounds_toArray, List.set_cons_zero, List.set_cons_succ]
          refine wpAnyT_take (m := 28) (i := 23) (v := ?_) (by kernel_rfl) (by decide) rfl (by kernel_rfl) (by kernel_rfl) (by kernel_rfl) (fun _ _ _ h => h) (Or.inl ⟨by kernel_rfl, ?_⟩) (by assumption) ?_
          rotate_left
          · (intro w' hSw; obtain ⟨S1, S2⟩ := hSw; have r0 : w'.cell? ⟨gq, 0, none⟩ = some (.slice A2 q2 c2) := S2.cell 0; have r1 := (S1.cell (p := ⟨bA, offA + k, none⟩) hbA).trans o_0; have r2 := (S1.cell (p := ⟨bS, offS + q2 * 2, none⟩) hbS).trans a_0; have r3 := (S1.cell (p := ⟨bS, offS + q2 * 2 + 1, none⟩) hbS).trans a_1; clear S1 S2; go_simp; try with_reducible rfl)
          try simp only [List.getElem_toArray, List.getElem_cons_succ, List.getElem_cons_zero, Act.put, List.setIfInBounds_toArray, List.set_cons_zero, List.set_cons_succ]
          refine wpAnyT_take (m := 28) (i := 24) (v := ?_) (by kernel_rfl) (by decide) rfl (by kernel_rfl) (by kernel_rfl) (by kernel_rfl) (fun _ _ _ h => h) (Or.inl ⟨by kernel_rfl, ?_⟩) (by assumption) ?_
          rotate_left
          · (intro w' hSw; obtain ⟨S1, S2⟩ := hSw; have r0 : w'.cell? ⟨gq, 0, none⟩ = some (.slice A2 q2 c2) := S2.cell 0; have r1 := (S1.cell (p := ⟨bA, offA + k, none⟩) hbA).trans o_0; have r2 := (S1.cell (p := ⟨bS, offS + q2 * 2, none⟩) hbS).trans a_0; have r3 := (S1.cell (p := ⟨bS, offS + q2 * 2 + 1, none⟩) hbS).trans a_1; clear S1 S2; go_simp; try with_reducible rfl)
          try simp only [List.getElem_toArray, List.getElem_cons_succ, List.getElem_cons_zero, Act.put, List.setIfInBounds_toArray, List.set_cons_zero, List.set_cons_succ]
          refine wpAnyT_step (i := 25) (by kernel_rfl) rfl (fun K hK => ?_)
          go_simp
          refine hK.out _ _ (⟨hHeld.1.alloc hHeld.1.size _, hHeld.2.al_ _⟩) (fun hHeld2 => ?_)
          clear hK hHeld
          have hHeld := hHeld2
          clear hHeld2 K
          try simp only [List.getElem_toArray, List.getElem_cons_succ, List.getElem_cons_zero, Act.put, List.setIfInBounds_toArray, List.set_cons_zero, List.set_cons_succ]
          refine wpAnyT_step (i := 26) (by kernel_rfl) rfl (fun K hK => ?_)
          (skip; (refine step_app _ rfl _ _ 51 rfl encPt_len (by decide) oneP (gq + 1) 60 (.agg #[.int .i64 0, .int .i64 0]) 16 infoPt2 rfl Tryz.underlying51 ((.slice A2 q2 c2)) _ _ _ (by first | rfl | simp [Act.eval, Act.put]) (HOQ7.out.alloc _) _ _ _ (by first | rfl | simp [Act.eval, Act.put]) (rd_one _ encPt_len _ (sc c a) _ rfl) ?c1 (by decide) ?c2 ?_; (case c1 => (first | (simp only [List.length_append, List.length_cons, List.length_nil]; omega) | omega | (simp; omega))); (case c2 => exact (by repeat (first | with_reducible exact Nat.le_refl _ | assumption | with_reducible refine le_alloc ?_ _ | with_reducible refine le_drew ?_ | with_reducible refine Kin.le _ ?_ | assumption | omega | (simp only [World.size_alloc]; omega)))); intro v2 w2 hown2 hg2 hbel2 hat2; skip))
          obtain ⟨n2, hn2⟩ : ∃ n2, ((o.take q2).map (sc c) ++ [sc c a]).length = n2 := ⟨_, rfl⟩
          have hn3 : n2 = q2 + 1 := by rw [← hn2, List.length_append, List.length_map, List.length_take, HM.out]; simp; omega
          rw [hn2] at hown2
          obtain ⟨A3, c3, rfl⟩ := own_slc hown2
          have BQ2 := hHeld.2.grown hg2 (fun e => own_ne HOQ7.out (HBQ.out.below HB56.out) (by decide) e.symm)
          have hbW2 : Below w.heap.size w w2 := hHeld.1.trans (hbel2.mono hlow)
          have q2_0 : w2.cell? ⟨gq, 0, none⟩ = some (.slice A2 q2 c2) := BQ2.cell 0
          have q2_f : w2.frozen? ⟨gq, 0, none⟩ = false := BQ2.frozen 0
          have q2_l := BQ2.lt
          have HBQ2 := Lib.hid BQ2
          have HO2 := Lib.hid hown2
          have HL2 := Lib.hid hbel2
          have HBW2 := Lib.hid hbW2
          have HN3 := Lib.hid hn3
          clear hn2 hown2 hat2 hg2 BQ2 hbel2 hbW2 hn3
          refine hK.out _ _ (⟨HBW2.out, HBQ2.out⟩) (fun hHeld2 => ?_)
          clear hK hHeld
          have hHeld := hHeld2
          clear hHeld2 K
          try simp only [List.getElem_toArray, List.getElem_cons_succ, List.getElem_cons_zero, Act.put, List.setIfInBounds_toArray, List.set_cons_zero, List.set_cons_succ]
          refine wpAnyT_take (m := 28) (i := 27) (v := ?_) (by kernel_rfl) (by decide) rfl (by kernel_rfl) (by kernel_rfl) (by kernel_rfl) (fun _ _ _ h => h) (Or.inl ⟨by kernel_rfl, ?_⟩) (by assumption) ?_
          rotate_left
          · (intro w' hSw; obtain ⟨S1, S2⟩ := hSw; have r0 : w'.cell? ⟨gq, 0, none⟩ = some (.slice A2 q2 c2) := S2.cell 0; have r1 := (S1.cell (p := ⟨bA, offA + k, none⟩) hbA).trans o_0; have r2 := (S1.cell (p := ⟨bS, offS + q2 * 2, none⟩) hbS).trans a_0; have r3 := (S1.cell (p := ⟨bS, offS + q2 * 2 + 1, none⟩) hbS).trans a_1; clear S1 S2; go_simp; try with_reducible rfl)
          try simp only [List.getElem_toArray, List.getElem_cons_succ, List.getElem_cons_zero, Act.put, List.setIfInBounds_toArray, List.set_cons_zero, List.set_cons_succ]
          clear hHeld
          refine wpAnyT_last (by kernel_rfl) rfl (fun K hK => ?_)
          go_simp
          refine hK.out _ _ ?_
          refine wpAnyT_done (by kernel_rfl) ?_ _
          clear hK
          go_wp2_with fail
          have wQ7 := own_grownBy HO2.out (grownBy_set (p := ⟨gq, 0, none⟩) (.slice A3 n2 c3)) (own_ne HO2.out HBQ2.out (by decide))
          have bwY : Below Y.heap.size Y (w2.setCell ⟨gq, 0, none⟩ (.slice A3 n2 c3)) := by
            have q1 := HYW.out.trans (HB56.out.mono HYW.out.size)
            have q2 := q1.alloc q1.size (.cells #[.int .i64 (a.1 * c), .int .i64 (a.2 * c)] 60)
            have q3 := q2.trans (HL2.out.mono (by rw [HGQ.out]; omega))
            exact q3.setCell (by rw [HGQ.out]; exact Nat.le_refl _) _
          refine ⟨⟨q2 + 1, A3, n2, c3, by omega, by go_num, Lib.hid (HBQ2.out.set_ 0 _), Lib.hid ?_, HN3.out, Lib.hid bwY⟩, by simp [intOf]; omega⟩
          rw [← HTK.out]; exact wQ7
        · have hjm2 : q2 = m := by omega
          subst hjm2
          have HSO := Lib.hid (show (o.take q2).map (sc c) = o.map (sc c) by rw [List.take_of_length_le (by rw [HM.out]; exact Nat.le_refl _)])
          have OW := HO.out.below HYW.out
          obtain ⟨hs, o1, o2, o3⟩ := OW
          have hhl : hs.length ≤ 1000000 := by rw [o2]; unfold scaleL; rw [List.length_map, List.length_take]; omega
          have HO1 := Lib.hid o1
          have HO2 := Lib.hid o2
          have HO3 := Lib.hid o3
          have hwl : w.heap.size ≤ wr.heap.size := HYW2.out.size
          have hgl : w.heap.size ≤ gq + 1 := by have := HYK.out.size; rw [HGQ.out] at this; omega
          have HP9 := Lib.hid (show wr.ownsRow w.heap.size 60 2 (psl ((A2, q2, c2) : PolH)) (o.map (sc c)).length ((o.map (sc c)).flatMap encPt) by
            rw [List.length_map, HM.out, ← HSO.out]; exact own_base HOQ.out hgl)
          have p_0 : wr.cell? ⟨gq, 0, none⟩ = some (.slice A2 q2 c2) := HBQ.out.cell 0
          have p_l := HBQ.out.lt
          have HSC := Lib.hid (show scaleL c (l.take (k + 1)) = scaleL c (l.take k) ++ [o.map (sc c)] by unfold scaleL; rw [List.take_add_one, HOO.out]; simp)
          clear o1 o2 o3
          go_wp2_with (at_builtin; refine Shut.out ?_)
          unfold Shut
          refine wpList_app _ rfl _ _ 30 rfl encPol_len (by decide) onePol (w.heap.size) 53 (.agg #[.slice none 0 0]) 24 infoPol rfl Tryz.underlying30 _ _ _ _ rfl (HO1.out.alloc _) _ _ _ rfl (rd_one _ encPol_len _ ((A2, q2, c2) : PolH) _ rfl) ?c1 (by decide) ?c2 ?_
          case c1 => (first | (simp only [List.length_append, List.length_cons, List.length_nil]; omega) | omega | (simp; omega))
          case c2 => exact (by repeat (first | with_reducible exact Nat.le_refl _ | assumption | with_reducible refine le_alloc ?_ _ | with_reducible refine le_drew ?_ | with_reducible refine Kin.le _ ?_ | assumption | omega | (simp only [World.size_alloc]; omega)))
          intro v1 w10 hown1 hg1 hbel1 hat1
          have g0 : Below wr.heap.size wr (wr.alloc (.cells #[.slice A2 q2 c2] 53)) := (Below.refl _ _).alloc (Nat.le_refl _) _
          have O10 := OutP.push (h := ((A2, q2, c2) : PolH)) (o := o.map (sc c)) (HO1.out.alloc (.cells #[.slice A2 q2 c2] 53)) HO2.out (fun i h o hh ho => own_below (HO3.out i h o hh ho) g0) (own_below HP9.out g0) hg1 hown1
          have K10 : Below w.heap.size w w10 := (HYW2.out.trans (g0.mono HYW2.out.size)).trans hbel1
          have HO10 := Lib.hid O10
          have HK10 := Lib.hid K10
          clear g0 O10 K10 hown1 hg1 hbel1 hat1
          go_wp2_with fail
          refine ⟨⟨k + 1, by omega, by go_num, Lib.hid (by rw [HSC.out]; exact HO10.out), ⟨w10, HK10.out⟩, rfl⟩, by simp [intOf]; omega⟩
    · have hkn : k = n := by omega
      subst hkn
      have HE := Lib.hid (show RdPols y.1 u5 (scaleL c l) by have := HO.out.rd; rwa [List.take_of_length_le (by rw [HN.out]; exact Nat.le_refl _)] at this)
      go_wp2_with fail
      go_ret
      exact ⟨⟨_, rfl, HE.out⟩, y.2⟩
end Go.Proofs.YtneelidbgigehaaGreat
/- The small functions of the top statements, walked: square, nearby. -/
namespace Go.Proofs.YtneelidbgigehaaGreat
set_option linter.unusedSimpArgs false
set_option linter.unusedVariables false
set_option maxRecDepth 100000
open Go.RowKit Trc Runs Reg Ras
attribute [local go_sem] Kin.cell Kin.frozen Kin.lt0 Kin.lt1 Kin.lt2 Kin.lt3 run_mkf
def sqR (x y : Int) (n : Nat) (k : Nat) : List Reg.Row := (upFrom y k).map fun v => (v, [(x, x + (n : Int))])
theorem sqR_succ (x y : Int) (n k : Nat) : sqR x y n (k + 1) = sqR x y n k ++ [(y + (k : Int), [(x, x + (n : Int))])] := by
  unfold sqR; rw [upFrom_succ]; simp
set_option maxHeartbeats 8000000 in
theorem square_any (x y : Int) (n : Nat) (w : World) (hx : -1000 ≤ x ∧ x ≤ 1000) (hy : -1000 ≤ y ∧ y ≤ 1000) (hn : n ≤ 1000) :
    Calls Tryz.prog 21 #[.int .i64 x, .int .i64 y, .int .i64 n] w fun e w' => (∃ S, e = .returned (.agg #[S]) ∧ RdReg w' (.agg #[S]) (sqR x y n n)) ∧ Below w.heap.size w w' := by
  have e1 : IntKind.i64.wrap (x + (n : Int)) = x + (n : Int) := IntWalk.i64_in _ (by omega)
  go_enter Tryz.func21, Tryz.ntmps21
  go_wp2_with fail
  obtain ⟨W2, hW2⟩ : ∃ W2, (w.alloc (.cells #[.slice none 0 0] 24)).alloc (.cells #[.slice none 0 0] 24) = W2 := ⟨_, rfl⟩
  obtain ⟨g, hg⟩ : ∃ g, w.heap.size = g := ⟨_, rfl⟩
  have hb2 : Below w.heap.size w W2 := hW2 ▸ ((Below.refl _ _).alloc (Nat.le_refl _) _).alloc (le_alloc (Nat.le_refl _) _) _
  have b0 : Blk W2 g 24 #[.slice none 0 0] := by rw [← hW2, ← hg]; exact Blk.al_ (Blk.new _ _ _) _
  have b1 : Blk W2 (g + 1) 24 #[.slice none 0 0] := by
    have := Blk.new (w.alloc (.cells #[.slice none 0 0] 24)) 24 #[.slice none 0 0]
    rw [World.size_alloc, hW2, hg] at this
    exact this
  have HB0 := Lib.hid b0
  have HB1 := Lib.hid b1
  have HB2 := Lib.hid hb2
  have HG := Lib.hid hg
  rw [hW2, hg]
  clear hW2 hg hb2 b0 b1
  go_loopw [8] (fun i wr => ∃ (k : Nat) (S : Value), k ≤ n ∧ i = .int .i64 k ∧ Hid (OwnRows (g + 1 + 1) wr S (sqR x y n k)) ∧ Hid (Blk wr (g + 1) 24 #[S]) ∧ Hid (Blk wr g 24 #[.slice none 0 0]) ∧ Hid (Below w.heap.size w wr)) (fun i _ => n - (intOf i).toNat)
  case atStart => exact ⟨0, _, Nat.zero_le _, rfl, Lib.hid OwnN.nil, HB1, HB0, HB2⟩
  case round =>
    clear HB0 HB1 HB2
    obtain ⟨k, S, hk, rfl, HO, HB1, HB0, HB2⟩ := hrel
    obtain ⟨hs, hown, hnest, hap⟩ := HO.out
    obtain ⟨AS, nS, cS, rfl⟩ := own_slice hown
    have HOW := Lib.hid hown
    have HNE := Lib.hid hnest
    have HAP := Lib.hid hap
    have hhl : hs.length ≤ 1000 := by have := hnest.1; unfold sqR at this; rw [List.length_map, upFrom_len] at this; omega
    have p0 : wr.cell? ⟨g + 1, 0, none⟩ = some (.slice AS nS cS) := HB1.out.cell 0
    have pl := HB1.out.lt
    clear hown hnest hap
    by_cases hlt : k < n
    · have e2 : IntKind.i64.wrap (y + (k : Int)) = y + (k : Int) := IntWalk.i64_in _ (by omega)
      have hgs : g + 1 + 1 ≤ wr.heap.size := HB1.out.lt
      go_wp2_with (at_builtin; refine Shut.out ?_)
      unfold Shut
      refine wpList_app _ rfl _ _ 22 rfl encRow_len (by decide) oneRow (g + 1 + 1) 44 (.agg #[.int .i64 0, .slice none 0 0]) 32 infoRow rfl Tryz.underlying22 _ _ _ _ rfl ((HOW.out.alloc _).alloc _) _ _ _ rfl (rd_one _ encRow_len _ (hd (y + (k : Int)) (some ⟨wr.heap.size, 0, none⟩) 1 1) _ rfl) ?c1 (by decide) ?c2 ?_
      case c1 => (first | (simp only [List.length_append, List.length_cons, List.length_nil]; omega) | omega | (simp; omega))
      case c2 => exact (by repeat (first | with_reducible exact Nat.le_refl _ | assumption | with_reducible refine le_alloc ?_ _ | with_reducible refine le_drew ?_ | with_reducible refine Kin.le _ ?_ | assumption | omega | (simp only [World.size_alloc]; omega)))
      intro v1 w1 hown1 hg1 hbel1 hat1
      obtain ⟨Wn, hWn⟩ : ∃ Wn, (wr.alloc (.cells #[.int .i64 x, .int .i64 (x + (n : Int))] 69)).alloc (.cells #[.int .i64 (y + (k : Int)), .slice (some ⟨wr.heap.size, 0, none⟩) 1 1] 44) = Wn := ⟨_, rfl⟩
      have hown1' := hown1
      obtain ⟨A1, n1, c1, rfl⟩ := own_slice hown1
      have hbn : Below wr.heap.size wr Wn := hWn ▸ ((Below.refl _ _).alloc (Nat.le_refl _) _).alloc (le_alloc (Nat.le_refl _) _) _
      have hr0 : Rd 2 encRun Wn (.slice (some ⟨wr.heap.size, 0, none⟩) 1 1) [(x, x + (n : Int))] := by
        have h1 := rd_one wr encRun_len 69 (x, x + (n : Int)) #[.int .i64 x, .int .i64 (x + (n : Int))] rfl rfl
        rw [← hWn]
        exact h1.below ((Below.refl _ _).alloc (Nat.le_refl _) _)
      have hwn : Wn.ownsRow (g + 1 + 1) 44 2 (.slice AS nS cS) hs.length (hs.flatMap encRow) := own_below HOW.out hbn
      rw [hWn] at hg1 hat1 hbel1
      have hP := HB1.out.below hbn
      have hpush := OwnRows.push (base := g + 1 + 1) (p := g + 1) hwn (HNE.out.below hbn) HAP.out hown1 hg1 hat1 hr0 (.inr (fun e => by
        have h1 := (HOW.out.lt wr.heap.size (e.symm.trans rfl)).2
        exact Nat.lt_irrefl _ h1)) hP
      have hP1 := hP.grown hg1 (Ne.symm (own_ne hwn hP (by decide)))
      have p1_0 : w1.cell? ⟨g + 1, 0, none⟩ = some (.slice AS nS cS) := hP1.cell 0
      have p1_f : w1.frozen? ⟨g + 1, 0, none⟩ = false := hP1.frozen 0
      have p1_l := hP1.lt
      have hB0 := (HB0.out.below hbn).grown hg1 (Ne.symm (own_ne hwn (HB0.out.below hbn) (by decide)))
      have hB0' := hB0.far (p := ⟨g + 1, 0, none⟩) (by show g ≠ g + 1; omega) (.slice A1 n1 c1)
      have hbw : Below w.heap.size w (w1.setCell ⟨g + 1, 0, none⟩ (.slice A1 n1 c1)) := by
        have q1 := HB2.out.trans (hbn.mono HB2.out.size)
        have q2 := q1.trans (hbel1.mono (by rw [HG.out]; omega))
        exact q2.setCell (by rw [HG.out]; exact Nat.le_succ _) _
      have HPU := Lib.hid hpush
      have HB0F := Lib.hid hB0'
      have HBW := Lib.hid hbw
      clear hWn hbn hr0 hwn hP hpush hP1 hB0 hB0' hbw hown1 hown1' hg1 hat1 hbel1
      go_wp2_with fail
      refine ⟨⟨k + 1, _, by omega, by go_num, Lib.hid (by rw [sqR_succ]; exact HPU.out.1), Lib.hid HPU.out.2, HB0F, HBW⟩, by simp [intOf]; omega⟩
    · have hkn : k = n := by omega
      subst hkn
      have q0 : wr.cell? ⟨g, 0, none⟩ = some (.slice none 0 0) := HB0.out.cell 0
      have qf : wr.frozen? ⟨g, 0, none⟩ = false := HB0.out.frozen 0
      have ql := HB0.out.lt
      go_wp2_with fail
      ((try simp only [Exit.inBlock, Exit.then]); refine bodyPost_ret (results_cell_row rfl _ _ _ _ _ (0, 0) _ rfl (HB0.out.set_ 0 _) Tryz.underlying24 rfl (by kernel_rfl)) rfl ?_)
      refine ⟨⟨_, rfl, ?_⟩, HB2.out.setCell (by rw [HG.out]; exact Nat.le_refl _) _⟩
      exact OwnRows.reg (OwnRows.set_ HO.out HB0.out (by decide))
set_option maxHeartbeats 4000000 in
theorem nearby_is {b : Bool} (v : Value) (rows : List Reg.Row) (w : World) (h : RdReg w v rows) (hbd : RBd rows) (hv : rvalid rows = true) (hb : nearR rows = b) :
    Calls Tryz.prog 6 #[v] w fun e w' => e = .returned (.bool b) ∧ Below w.heap.size w w' := by
  obtain ⟨s, rfl, hr⟩ := h
  have H := Lib.hid (show RdReg w (.agg #[s]) rows from ⟨s, rfl, hr⟩)
  have HBD := Lib.hid hbd
  obtain ⟨⟨⟨a, a'⟩, ⟨c, c'⟩⟩, hp⟩ : ∃ p, boxR rows = p := ⟨_, rfl⟩
  obtain ⟨cn, hcn⟩ : ∃ cn, cntR rows = cn := ⟨_, rfl⟩
  have HP := Lib.hid hp
  have HCN := Lib.hid hcn
  have hbc : b = (decide (cn ≤ 200) && decide (-1000 ≤ a) && decide (-1000 ≤ a') && decide (c ≤ 1000) && decide (c' ≤ 1000)) := by rw [← hb]; unfold nearR; rw [hp, hcn]
  subst hbc
  have hbx := box18_any (.agg #[s]) rows
  rw [hp] at hbx
  have hct := count18_any (.agg #[s]) rows
  rw [hcn] at hct
  have HBX := Lib.hid hbx
  have HCT := Lib.hid hct
  clear hr hbd hb hp hcn hbx hct
  have hcs : (¬ cn ≤ 200) ∨ (cn ≤ 200 ∧ ¬ -1000 ≤ a) ∨ (cn ≤ 200 ∧ -1000 ≤ a ∧ ¬ -1000 ≤ a') ∨ (cn ≤ 200 ∧ -1000 ≤ a ∧ -1000 ≤ a' ∧ ¬ c ≤ 1000) ∨ (cn ≤ 200 ∧ -1000 ≤ a ∧ -1000 ≤ a' ∧ c ≤ 1000 ∧ ¬ c' ≤ 1000) ∨ (cn ≤ 200 ∧ -1000 ≤ a ∧ -1000 ≤ a' ∧ c ≤ 1000 ∧ c' ≤ 1000) := by omega
  rcases hcs with h1 | ⟨h1, h2⟩ | ⟨h1, h2, h3⟩ | ⟨h1, h2, h3, h4⟩ | ⟨h1, h2, h3, h4, h5⟩ | ⟨h1, h2, h3, h4, h5⟩
  all_goals
    go_enter Tryz.func6, Tryz.ntmps6
    go_wp2_with fail
    (go_at_call 20; (with_reducible refine (Kin.callK (W := w.alloc (.cells #[s] 24)) (by repeat (first | with_reducible (first | exact blA | exact blB | refine blC _ ?_ | refine blD ?_ ?_ _ | refine blE ?_ | refine blF _ ?_ | refine blG ?_ _ | refine blH ?_ | refine blI ?_ ?_ _) | (simp only [World.size_alloc]; omega) | (simp <;> omega))) (HBX.out _ (H.out.below (by repeat (first | with_reducible (first | exact blA | exact blB | refine blC _ ?_ | refine blD ?_ ?_ _ | refine blE ?_ | refine blF _ ?_ | refine blG ?_ _ | refine blH ?_ | refine blI ?_ ?_ _) | (simp only [World.size_alloc]; omega) | (simp <;> omega)))) HBD.out)).mono ?_); rintro e w' ⟨z1, rfl, hz1, rfl⟩; skip)
    go_wp2_with fail
    (go_at_call 18; (with_reducible refine (Kin.callK (W := ((Kin.wd z1).alloc (.cells #[.int .i64 a, .int .i64 a'] 47)).alloc (.cells #[.int .i64 c, .int .i64 c'] 47)) (by repeat (first | with_reducible (first | exact blA | exact blB | refine blC _ ?_ | refine blD ?_ ?_ _ | refine blE ?_ | refine blF _ ?_ | refine blG ?_ _ | refine blH ?_ | refine blI ?_ ?_ _) | (simp only [World.size_alloc]; omega) | (simp <;> omega))) (HCT.out _ (H.out.below (by repeat (first | with_reducible (first | exact blA | exact blB | refine blC _ ?_ | refine blD ?_ ?_ _ | refine blE ?_ | refine blF _ ?_ | refine blG ?_ _ | refine blH ?_ | refine blI ?_ ?_ _) | (simp only [World.size_alloc]; omega) | (simp <;> omega)))) HBD.out)).mono ?_); rintro e w' ⟨z2, rfl, hz2, rfl⟩; skip)
    go_wp2_with fail
    go_ret
    exact ⟨ret_bool (by first | (simp [*]; done) | (simp [*]; intros; omega)), (by repeat (first | with_reducible (first | exact blA | exact blB | refine blC _ ?_ | refine blD ?_ ?_ _ | refine blE ?_ | refine blF _ ?_ | refine blG ?_ _ | refine blH ?_ | refine blI ?_ ?_ _) | (simp only [World.size_alloc]; omega) | (simp <;> omega)))⟩
end Go.Proofs.YtneelidbgigehaaGreat

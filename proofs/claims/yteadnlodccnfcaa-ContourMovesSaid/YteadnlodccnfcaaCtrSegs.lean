/- Segs of the program, walked. -/
import Derived.Test.YteadnlodccnfcaaCtrKit
import Derived.Deep.RegionHeld
namespace Go.Proofs.Yteadnlodccnfcaa
set_option linter.unusedSimpArgs false
set_option linter.unusedVariables false
set_option maxRecDepth 100000
open Go.RowKit Planar
attribute [local go_sem] Kin.cell Kin.frozen Kin.lt0 Kin.lt1 Kin.lt2 Kin.lt3
/-- the segment at i -/
def segAt (o : List Pt) (i : Nat) : Sg := (o.getD i (0, 0), o.getD ((i + 1) % o.length) (0, 0))
def segsTo (o : List Pt) (k : Nat) : List Sg := (List.range k).map (segAt o)
def segsO (o : List Pt) : List Sg := segsTo o o.length
def segsL (l : List (List Pt)) : List Sg := l.flatMap segsO
theorem segsTo_succ (o : List Pt) (k : Nat) : segsTo o (k + 1) = segsTo o k ++ [segAt o k] := by simp [segsTo, List.range_succ]
theorem segsTo_len (o : List Pt) (k : Nat) : (segsTo o k).length = k := by simp [segsTo]
theorem segsL_succ {l : List (List Pt)} {k : Nat} {o : List Pt} (h : l[k]? = some o) : segsL (l.take (k + 1)) = segsL (l.take k) ++ segsO o := by
  unfold segsL
  rw [List.take_add_one, h]; simp
theorem segAt_is {o : List Pt} {i n : Nat} {a b : Pt} (hn : o.length = n) (ha : o[i]? = some a) (hb : o[(i + 1) % n]? = some b) : segAt o i = (a, b) := by
  unfold segAt
  rw [hn, List.getD_eq_getElem?_getD, List.getD_eq_getElem?_getD, ha, hb]
  rfl
theorem segsL_le (l : List (List Pt)) (k : Nat) : (segsL (l.take k)).length ≤ (segsL l).length := by
  unfold segsL
  conv => rhs; rw [← List.take_append_drop k l]
  rw [List.flatMap_append, List.length_append]
  exact Nat.le_add_right _ _
abbrev OwnG (base : Nat) (W : World) (v : Value) (l : List Sg) : Prop := W.ownsRow base 38 4 v l.length (l.flatMap encSg)
theorem Blk.al_ {w : World} {g : Nat} {t : TypeId} {cs : Array Value} (h : Blk w g t cs) (o : Obj) : Blk (w.alloc o) g t cs := h.below (Below.alloc (Below.refl _ _) (Nat.le_refl _) _)
set_option maxHeartbeats 8000000 in
theorem segs_any (v : Value) (l : List (List Pt)) (w : World) (h : RdPols w v l) (hl : l.length ≤ 1000000000) (hb : (segsL l).length ≤ 1000000000) :
    Calls Try.prog 21 #[v] w fun e w' => (∃ u, e = .returned u ∧ OwnG w.heap.size w' u (segsL l)) ∧ Below w.heap.size w w' := by
  obtain ⟨A, capA, rfl, hcapA, hopA⟩ := pols_open h
  have HA := Lib.hid hopA
  obtain ⟨n, hL⟩ : ∃ n, l.length = n := ⟨_, rfl⟩
  have HL := Lib.hid hL
  rw [hL] at hcapA hl ⊢
  clear hL hopA h
  go_enter Try.func21, Try.ntmps21
  go_wp2_with fail
  go_loopw [3, 10] (fun u i wr => ∃ k : Nat, k ≤ n ∧ i = .int .i64 k ∧ Hid (OwnG w.heap.size wr u (segsL (l.take k))) ∧ ∃ y : Kin w, y.1 = wr) (fun _ i _ => n - (intOf i).toNat)
  case atStart => exact ⟨0, Nat.zero_le _, rfl, Lib.hid (World.ownsRow_nil _ _ _ _), ⟨_, Below.refl _ _⟩, rfl⟩
  case round =>
    obtain ⟨k, hk, rfl, HO, y, rfl⟩ := hrel
    by_cases hlt : k < n
    · obtain ⟨o, ho⟩ : ∃ o, l[k]? = some o := ⟨_, List.getElem?_eq_getElem (by rw [HL.out]; exact hlt)⟩
      obtain ⟨bA, offA, rfl, hbA, hcA⟩ := HA.out k o ho
      obtain ⟨S, cS, o_0, hcS, hrS⟩ := hcA k o ho
      have HSC := Lib.hid (segsL_succ ho)
      have hbd := segsL_le l (k + 1)
      rw [HSC.out, List.length_append] at hbd
      obtain ⟨m, hm⟩ : ∃ m, o.length = m := ⟨_, rfl⟩
      have hlo : (segsO o).length = m := by unfold segsO; rw [segsTo_len, hm]
      rw [hlo] at hbd
      rw [hm] at o_0 hcS hrS
      have HM := Lib.hid hm
      have HRS := Lib.hid hrS
      have HSO := Lib.hid (show segsO o = segsTo o m by unfold segsO; rw [hm])
      obtain ⟨P, hP⟩ : ∃ P, segsL (l.take k) = P := ⟨_, rfl⟩
      rw [hP] at HO HSC hbd
      clear hcA ho hm hrS hlo hP
      go_wp2_with fail
      obtain ⟨y5, hy5⟩ : ∃ y5 : Kin w, y5.1 = y.1.alloc (.cells #[.slice S m cS] 42) := ⟨⟨y.1.alloc _, (by repeat (first | with_reducible (first | exact blA | exact blB | refine blC _ ?_ | refine blD ?_ ?_ _ | refine blE ?_ | refine blF _ ?_ | refine blG ?_ _ | refine blH ?_ | refine blI ?_ ?_ _) | (simp only [World.size_alloc]; omega) | (simp <;> omega)))⟩, rfl⟩
      obtain ⟨g5, hg5⟩ : ∃ g, y.1.heap.size = g := ⟨_, rfl⟩
      have B5 := Blk.new y.1 42 #[.slice S m cS]
      have HO5 := Lib.hid (HO.out.alloc (.cells #[.slice S m cS] 42))
      rw [← hy5, hg5] at B5
      rw [← hy5] at HO5
      rw [← hy5, hg5]
      have HB5 := Lib.hid B5
      clear hy5 hg5 B5 HO
      go_loopw [3, 17] (fun u i wr => ∃ j : Nat, j ≤ m ∧ i = .int .i64 j ∧ Hid (OwnG w.heap.size wr u (P ++ segsTo o j)) ∧ Hid (Blk wr g5 42 #[.slice S m cS]) ∧ ∃ y : Kin w, y.1 = wr) (fun _ i _ => m - (intOf i).toNat)
      case atStart => exact ⟨0, Nat.zero_le _, rfl, Lib.hid (by simpa [segsTo] using HO5.out), HB5, y5, rfl⟩
      case round =>
        obtain ⟨j, hj, rfl, HO6, HB6, y6, rfl⟩ := hrel
        by_cases hlt2 : j < m
        · obtain ⟨a, ha⟩ : ∃ a, o[j]? = some a := ⟨_, List.getElem?_eq_getElem (by rw [HM.out]; exact hlt2)⟩
          obtain ⟨q, hq⟩ : ∃ q, (j + 1) % m = q := ⟨_, rfl⟩
          have hqm : q < m := by rw [← hq]; exact Nat.mod_lt _ (by omega)
          obtain ⟨b, hb'⟩ : ∃ b, o[q]? = some b := ⟨_, List.getElem?_eq_getElem (by rw [HM.out]; exact hqm)⟩
          have HSA := Lib.hid (show segsTo o (j + 1) = segsTo o j ++ [(a, b)] by rw [segsTo_succ, segAt_is HM.out ha (by rw [hq]; exact hb')])
          obtain ⟨bS, offS, rfl, hbS, hcc⟩ := Rd.op HRS.out j a ha
          have a_0 : w.cell? ⟨bS, offS + j * 2, none⟩ = some (.int .i64 a.1) := hcc j a ha 0 _ rfl
          have a_1 : w.cell? ⟨bS, offS + j * 2 + 1, none⟩ = some (.int .i64 a.2) := hcc j a ha 1 _ rfl
          have b_0 : w.cell? ⟨bS, offS + q * 2, none⟩ = some (.int .i64 b.1) := hcc q b hb' 0 _ rfl
          have b_1 : w.cell? ⟨bS, offS + q * 2 + 1, none⟩ = some (.int .i64 b.2) := hcc q b hb' 1 _ rfl
          have e1 : IntKind.i64.wrap ((j : Int) + 1) = (j : Int) + 1 := IntWalk.i64_in _ (by omega)
          have e2 : ((j : Int) + 1).tmod (m : Int) = (q : Int) := by rw [Int.tmod_eq_emod_of_nonneg (by omega), ← hq]; rfl
          have e2b : ((j : Int) + 1) % (m : Int) = (q : Int) := by rw [← hq]; rfl
          have e3 : IntKind.i64.wrap (q : Int) = (q : Int) := IntWalk.i64_in _ (by omega)
          have e4 : ¬ (m : Int) = 0 := by omega
          have e4b : ¬ m = 0 := by omega
          have e5 : (q : Int) < (m : Int) := by omega
          have hlen6 : (P ++ segsTo o j).length ≤ 1000000000 := by rw [List.length_append, segsTo_len]; omega
          have mixed : Try.prog.follows .mixedOrders = true := by kernel_rfl
          clear hcc ha hb' hq
          go_wp2_with fail
          obtain ⟨y7, hy7⟩ : ∃ y7 : Kin w, y7.1 = y6.1.alloc (.cells #[.int .i64 a.1, .int .i64 a.2] 36) := ⟨⟨y6.1.alloc _, (by repeat (first | with_reducible (first | exact blA | exact blB | refine blC _ ?_ | refine blD ?_ ?_ _ | refine blE ?_ | refine blF _ ?_ | refine blG ?_ _ | refine blH ?_ | refine blI ?_ ?_ _) | (simp only [World.size_alloc]; omega) | (simp <;> omega)))⟩, rfl⟩
          obtain ⟨g7, hg7⟩ : ∃ g, y6.1.heap.size = g := ⟨_, rfl⟩
          have B7 := Blk.new y6.1 36 #[.int .i64 a.1, .int .i64 a.2]
          have HO7 := Lib.hid (HO6.out.alloc (.cells #[.int .i64 a.1, .int .i64 a.2] 36))
          have B57 := HB6.out.below (show Below y6.1.heap.size y6.1 y7.1 from hy7 ▸ Below.alloc (Below.refl _ _) (Nat.le_refl _) _)
          rw [← hy7, hg7] at B7
          rw [← hy7] at HO7
          rw [← hy7, hg7]
          clear hy7 hg7 HO6 HB6
          refine wp_region_held_drew (S := fun w' => Below w.heap.size w w' ∧ Blk w' g7 36 #[.int .i64 a.1, .int .i64 a.2] ∧ Blk w' g5 42 #[.slice (some ⟨bS, offS, none⟩) m cS]) (by kernel_rfl) (⟨y7.2.drew, B7.below (Below.drew (Below.refl _ _)), B57.below (Below.drew (Below.refl _ _))⟩) (fun hHeld => ?_)
          try simp only [List.size_toArray, List.length_cons, List.length_nil, Nat.zero_add, Nat.reduceAdd, List.replicate, Array.replicate]
          obtain ⟨y8, hy8⟩ : ∃ y8 : Kin w, y8.1 = y7.1.drew := ⟨⟨y7.1.drew, y7.2.drew⟩, rfl⟩
          have HO8 := Lib.hid (own_below HO7.out (show Below y7.1.heap.size y7.1 y8.1 from hy8 ▸ Below.drew (Below.refl _ _)))
          rw [← hy8] at hHeld ⊢
          clear hy8 B7 B57 HO7
          refine wpAnyH_take (i := 0) (v := ?_) rfl (by kernel_rfl) (by kernel_rfl) (by kernel_rfl) (fun _ _ _ h => h) (Or.inl ⟨by kernel_rfl, ?_⟩) (by assumption) ?_
          rotate_left
          · (intro w' hSw; obtain ⟨S1, S2, S3⟩ := hSw; have r0 : w'.cell? ⟨g7, 0, none⟩ = some (.int .i64 a.1) := S2.cell 0; have r1 : w'.cell? ⟨g7, 1, none⟩ = some (.int .i64 a.2) := S2.cell 1; have r2 : w'.cell? ⟨g5, 0, none⟩ = some (.slice (some ⟨bS, offS, none⟩) m cS) := S3.cell 0; have r3 := (S1.cell (p := ⟨bS, offS + q * 2, none⟩) hbS).trans b_0; have r4 := (S1.cell (p := ⟨bS, offS + q * 2 + 1, none⟩) hbS).trans b_1; clear S1 S2 S3; go_simp; try with_reducible rfl)
          try simp only [List.getElem_toArray, List.getElem_cons_succ, List.getElem_cons_zero, Act.put, List.setIfInBounds_toArray, List.set_cons_zero, List.set_cons_succ]
          refine wpAnyH_take (i := 1) (v := ?_) rfl (by kernel_rfl) (by kernel_rfl) (by kernel_rfl) (fun _ _ _ h => h) (Or.inl ⟨by kernel_rfl, ?_⟩) (by assumption) ?_
          rotate_left
          · (intro w' hSw; obtain ⟨S1, S2, S3⟩ := hSw; have r0 : w'.cell? ⟨g7, 0, none⟩ = some (.int .i64 a.1) := S2.cell 0; have r1 : w'.cell? ⟨g7, 1, none⟩ = some (.int .i64 a.2) := S2.cell 1; have r2 : w'.cell? ⟨g5, 0, none⟩ = some (.slice (some ⟨bS, offS, none⟩) m cS) := S3.cell 0; have r3 := (S1.cell (p := ⟨bS, offS + q * 2, none⟩) hbS).trans b_0; have r4 := (S1.cell (p := ⟨bS, offS + q * 2 + 1, none⟩) hbS).trans b_1; clear S1 S2 S3; go_simp; try with_reducible rfl)
          try simp only [List.getElem_toArray, List.getElem_cons_succ, List.getElem_cons_zero, Act.put, List.setIfInBounds_toArray, List.set_cons_zero, List.set_cons_succ]
          refine wpAnyH_take (i := 2) (v := ?_) rfl (by kernel_rfl) (by kernel_rfl) (by kernel_rfl) (fun _ _ _ h => h) (Or.inl ⟨by kernel_rfl, ?_⟩) (by assumption) ?_
          rotate_left
          · (intro w' hSw; obtain ⟨S1, S2, S3⟩ := hSw; have r0 : w'.cell? ⟨g7, 0, none⟩ = some (.int .i64 a.1) := S2.cell 0; have r1 : w'.cell? ⟨g7, 1, none⟩ = some (.int .i64 a.2) := S2.cell 1; have r2 : w'.cell? ⟨g5, 0, none⟩ = some (.slice (some ⟨bS, offS, none⟩) m cS) := S3.cell 0; have r3 := (S1.cell (p := ⟨bS, offS + q * 2, none⟩) hbS).trans b_0; have r4 := (S1.cell (p := ⟨bS, offS + q * 2 + 1, none⟩) hbS).trans b_1; clear S1 S2 S3; go_simp; try with_reducible rfl)
          try simp only [List.getElem_toArray, List.getElem_cons_succ, List.getElem_cons_zero, Act.put, List.setIfInBounds_toArray, List.set_cons_zero, List.set_cons_succ]
          refine wpAnyH_take (i := 3) (v := ?_) rfl (by kernel_rfl) (by kernel_rfl) (by kernel_rfl) (fun _ _ _ h => h) (Or.inl ⟨by kernel_rfl, ?_⟩) (by assumption) ?_
          rotate_left
          · (intro w' hSw; obtain ⟨S1, S2, S3⟩ := hSw; have r0 : w'.cell? ⟨g7, 0, none⟩ = some (.int .i64 a.1) := S2.cell 0; have r1 : w'.cell? ⟨g7, 1, none⟩ = some (.int .i64 a.2) := S2.cell 1; have r2 : w'.cell? ⟨g5, 0, none⟩ = some (.slice (some ⟨bS, offS, none⟩) m cS) := S3.cell 0; have r3 := (S1.cell (p := ⟨bS, offS + q * 2, none⟩) hbS).trans b_0; have r4 := (S1.cell (p := ⟨bS, offS + q * 2 + 1, none⟩) hbS).trans b_1; clear S1 S2 S3; go_simp; try with_reducible rfl)
          try simp only [List.getElem_toArray, List.getElem_cons_succ, List.getElem_cons_zero, Act.put, List.setIfInBounds_toArray, List.set_cons_zero, List.set_cons_succ]
          refine wpAnyH_take (i := 4) (v := ?_) rfl (by kernel_rfl) (by kernel_rfl) (by kernel_rfl) (fun _ _ _ h => h) (Or.inl ⟨by kernel_rfl, ?_⟩) (by assumption) ?_
          rotate_left
          · (intro w' hSw; obtain ⟨S1, S2, S3⟩ := hSw; have r0 : w'.cell? ⟨g7, 0, none⟩ = some (.int .i64 a.1) := S2.cell 0; have r1 : w'.cell? ⟨g7, 1, none⟩ = some (.int .i64 a.2) := S2.cell 1; have r2 : w'.cell? ⟨g5, 0, none⟩ = some (.slice (some ⟨bS, offS, none⟩) m cS) := S3.cell 0; have r3 := (S1.cell (p := ⟨bS, offS + q * 2, none⟩) hbS).trans b_0; have r4 := (S1.cell (p := ⟨bS, offS + q * 2 + 1, none⟩) hbS).trans b_1; clear S1 S2 S3; go_simp; try with_reducible rfl)
          try simp only [List.getElem_toArray, List.getElem_cons_succ, List.getElem_cons_zero, Act.put, List.setIfInBounds_toArray, List.set_cons_zero, List.set_cons_succ]
          refine wpAnyH_take (i := 5) (v := ?_) rfl (by kernel_rfl) (by kernel_rfl) (by kernel_rfl) (fun _ _ _ h => h) (Or.inl ⟨by kernel_rfl, ?_⟩) (by assumption) ?_
          rotate_left
          · (intro w' hSw; obtain ⟨S1, S2, S3⟩ := hSw; have r0 : w'.cell? ⟨g7, 0, none⟩ = some (.int .i64 a.1) := S2.cell 0; have r1 : w'.cell? ⟨g7, 1, none⟩ = some (.int .i64 a.2) := S2.cell 1; have r2 : w'.cell? ⟨g5, 0, none⟩ = some (.slice (some ⟨bS, offS, none⟩) m cS) := S3.cell 0; have r3 := (S1.cell (p := ⟨bS, offS + q * 2, none⟩) hbS).trans b_0; have r4 := (S1.cell (p := ⟨bS, offS + q * 2 + 1, none⟩) hbS).trans b_1; clear S1 S2 S3; go_simp; try with_reducible rfl)
          try simp only [List.getElem_toArray, List.getElem_cons_succ, List.getElem_cons_zero, Act.put, List.setIfInBounds_toArray, List.set_cons_zero, List.set_cons_succ]
          refine wpAnyH_take (i := 6) (v := ?_) rfl (by kernel_rfl) (by kernel_rfl) (by kernel_rfl) (fun _ _ _ h => h) (Or.inl ⟨by kernel_rfl, ?_⟩) (by assumption) ?_
          rotate_left
          · (intro w' hSw; obtain ⟨S1, S2, S3⟩ := hSw; have r0 : w'.cell? ⟨g7, 0, none⟩ = some (.int .i64 a.1) := S2.cell 0; have r1 : w'.cell? ⟨g7, 1, none⟩ = some (.int .i64 a.2) := S2.cell 1; have r2 : w'.cell? ⟨g5, 0, none⟩ = some (.slice (some ⟨bS, offS, none⟩) m cS) := S3.cell 0; have r3 := (S1.cell (p := ⟨bS, offS + q * 2, none⟩) hbS).trans b_0; have r4 := (S1.cell (p := ⟨bS, offS + q * 2 + 1, none⟩) hbS).trans b_1; clear S1 S2 S3; go_simp; try with_reducible rfl)
          try simp only [List.getElem_toArray, List.getElem_cons_succ, List.getElem_cons_zero, Act.put, List.setIfInBounds_toArray, List.set_cons_zero, List.set_cons_succ]
          refine wpAnyH_take (i := 7) (v := ?_) rfl (by kernel_rfl) (by kernel_rfl) (by kernel_rfl) (fun _ _ _ h => h) (Or.inl ⟨by kernel_rfl, ?_⟩) (by assumption) ?_
          rotate_left
          · (intro w' hSw; obtain ⟨S1, S2, S3⟩ := hSw; have r0 : w'.cell? ⟨g7, 0, none⟩ = some (.int .i64 a.1) := S2.cell 0; have r1 : w'.cell? ⟨g7, 1, none⟩ = some (.int .i64 a.2) := S2.cell 1; have r2 : w'.cell? ⟨g5, 0, none⟩ = some (.slice (some ⟨bS, offS, none⟩) m cS) := S3.cell 0; have r3 := (S1.cell (p := ⟨bS, offS + q * 2, none⟩) hbS).trans b_0; have r4 := (S1.cell (p := ⟨bS, offS + q * 2 + 1, none⟩) hbS).trans b_1; clear S1 S2 S3; go_simp; try with_reducible rfl)
          try simp only [List.getElem_toArray, List.getElem_cons_succ, List.getElem_cons_zero, Act.put, List.setIfInBounds_toArray, List.set_cons_zero, List.set_cons_succ]
          refine wpAnyH_take (i := 8) (v := ?_) rfl (by kernel_rfl) (by kernel_rfl) (by kernel_rfl) (fun _ _ _ h => h) (Or.inl ⟨by kernel_rfl, ?_⟩) (by assumption) ?_
          rotate_left
          · (intro w' hSw; obtain ⟨S1, S2, S3⟩ := hSw; have r0 : w'.cell? ⟨g7, 0, none⟩ = some (.int .i64 a.1) := S2.cell 0; have r1 : w'.cell? ⟨g7, 1, none⟩ = some (.int .i64 a.2) := S2.cell 1; have r2 : w'.cell? ⟨g5, 0, none⟩ = some (.slice (some ⟨bS, offS, none⟩) m cS) := S3.cell 0; have r3 := (S1.cell (p := ⟨bS, offS + q * 2, none⟩) hbS).trans b_0; have r4 := (S1.cell (p := ⟨bS, offS + q * 2 + 1, none⟩) hbS).trans b_1; clear S1 S2 S3; go_simp; try with_reducible rfl)
          try simp only [List.getElem_toArray, List.getElem_cons_succ, List.getElem_cons_zero, Act.put, List.setIfInBounds_toArray, List.set_cons_zero, List.set_cons_succ]
          refine wpAnyH_take (i := 9) (v := ?_) rfl (by kernel_rfl) (by kernel_rfl) (by kernel_rfl) (fun _ _ _ h => h) (Or.inl ⟨by kernel_rfl, ?_⟩) (by assumption) ?_
          rotate_left
          · (intro w' hSw; obtain ⟨S1, S2, S3⟩ := hSw; have r0 : w'.cell? ⟨g7, 0, none⟩ = some (.int .i64 a.1) := S2.cell 0; have r1 : w'.cell? ⟨g7, 1, none⟩ = some (.int .i64 a.2) := S2.cell 1; have r2 : w'.cell? ⟨g5, 0, none⟩ = some (.slice (some ⟨bS, offS, none⟩) m cS) := S3.cell 0; have r3 := (S1.cell (p := ⟨bS, offS + q * 2, none⟩) hbS).trans b_0; have r4 := (S1.cell (p := ⟨bS, offS + q * 2 + 1, none⟩) hbS).trans b_1; clear S1 S2 S3; go_simp; try with_reducible rfl)
          try simp only [List.getElem_toArray, List.getElem_cons_succ, List.getElem_cons_zero, Act.put, List.setIfInBounds_toArray, List.set_cons_zero, List.set_cons_succ]
          refine wpAnyH_take (i := 10) (v := ?_) rfl (by kernel_rfl) (by kernel_rfl) (by kernel_rfl) (fun _ _ _ h => h) (Or.inl ⟨by kernel_rfl, ?_⟩) (by assumption) ?_
          rotate_left
          · (intro w' hSw; obtain ⟨S1, S2, S3⟩ := hSw; have r0 : w'.cell? ⟨g7, 0, none⟩ = some (.int .i64 a.1) := S2.cell 0; have r1 : w'.cell? ⟨g7, 1, none⟩ = some (.int .i64 a.2) := S2.cell 1; have r2 : w'.cell? ⟨g5, 0, none⟩ = some (.slice (some ⟨bS, offS, none⟩) m cS) := S3.cell 0; have r3 := (S1.cell (p := ⟨bS, offS + q * 2, none⟩) hbS).trans b_0; have r4 := (S1.cell (p := ⟨bS, offS + q * 2 + 1, none⟩) hbS).trans b_1; clear S1 S2 S3; go_simp; try with_reducible rfl)
          try simp only [List.getElem_toArray, List.getElem_cons_succ, List.getElem_cons_zero, Act.put, List.setIfInBounds_toArray, List.set_cons_zero, List.set_cons_succ]
          refine wpAnyH_take (i := 11) (v := ?_) rfl (by kernel_rfl) (by kernel_rfl) (by kernel_rfl) (fun _ _ _ h => h) (Or.inl ⟨by kernel_rfl, ?_⟩) (by assumption) ?_
          rotate_left
          · (intro w' hSw; obtain ⟨S1, S2, S3⟩ := hSw; have r0 : w'.cell? ⟨g7, 0, none⟩ = some (.int .i64 a.1) := S2.cell 0; have r1 : w'.cell? ⟨g7, 1, none⟩ = some (.int .i64 a.2) := S2.cell 1; have r2 : w'.cell? ⟨g5, 0, none⟩ = some (.slice (some ⟨bS, offS, none⟩) m cS) := S3.cell 0; have r3 := (S1.cell (p := ⟨bS, offS + q * 2, none⟩) hbS).trans b_0; have r4 := (S1.cell (p := ⟨bS, offS + q * 2 + 1, none⟩) hbS).trans b_1; clear S1 S2 S3; go_simp; try with_reducible rfl)
          try simp only [List.getElem_toArray, List.getElem_cons_succ, List.getElem_cons_zero, Act.put, List.setIfInBounds_toArray, List.set_cons_zero, List.set_cons_succ]
          refine wpAnyH_take (i := 12) (v := ?_) rfl (by kernel_rfl) (by kernel_rfl) (by kernel_rfl) (fun _ _ _ h => h) (Or.inl ⟨by kernel_rfl, ?_⟩) (by assumption) ?_
          rotate_left
          · (intro w' hSw; obtain ⟨S1, S2, S3⟩ := hSw; have r0 : w'.cell? ⟨g7, 0, none⟩ = some (.int .i64 a.1) := S2.cell 0; have r1 : w'.cell? ⟨g7, 1, none⟩ = some (.int .i64 a.2) := S2.cell 1; have r2 : w'.cell? ⟨g5, 0, none⟩ = some (.slice (some ⟨bS, offS, none⟩) m cS) := S3.cell 0; have r3 := (S1.cell (p := ⟨bS, offS + q * 2, none⟩) hbS).trans b_0; have r4 := (S1.cell (p := ⟨bS, offS + q * 2 + 1, none⟩) hbS).trans b_1; clear S1 S2 S3; go_simp; try with_reducible rfl)
          try simp only [List.getElem_toArray, List.getElem_cons_succ, List.getElem_cons_zero, Act.put, List.setIfInBounds_toArray, List.set_cons_zero, List.set_cons_succ]
          refine wpAnyH_ready (rs := [13]) (by kernel_rfl) (by simp) (AllReadyH.cons rfl (fun K hK => ?_) AllReadyH.nil)
          go_simp
          refine hK.out _ _ (⟨hHeld.1.alloc hHeld.1.size _, hHeld.2.1.al_ _, hHeld.2.2.al_ _⟩) (fun hHeld2 => ?_)
          clear hK hHeld
          have hHeld := hHeld2
          clear hHeld2 K
          try simp only [List.getElem_toArray, List.getElem_cons_succ, List.getElem_cons_zero, Act.put, List.setIfInBounds_toArray, List.set_cons_zero, List.set_cons_succ]
          refine wpAnyH_ready (rs := [14]) (by kernel_rfl) (by simp) (AllReadyH.cons rfl (fun K hK => ?_) AllReadyH.nil)
          (skip; (refine step_app _ rfl _ _ 22 rfl encSg_len (by decide) oneSg w.heap.size 38 (.agg #[.int .i64 0, .int .i64 0, .int .i64 0, .int .i64 0]) 32 infoSg rfl Try.underlying22 (u3) _ _ _ (by first | rfl | simp [Act.eval, Act.put]) (HO8.out.alloc _) _ _ _ (by first | rfl | simp [Act.eval, Act.put]) (rd_one _ encSg_len _ (a, b) _ rfl) ?c1 (by decide) ?c2 ?_; (case c1 => (first | (simp only [List.length_append, List.length_cons, List.length_nil]; omega) | omega | (simp; omega))); (case c2 => exact (by repeat (first | with_reducible exact Nat.le_refl _ | assumption | with_reducible refine le_alloc ?_ _ | with_reducible refine le_drew ?_ | with_reducible refine Kin.le _ ?_ | assumption | omega | (simp only [World.size_alloc]; omega)))); intro u9 w9 hown9 hg9 hbel9 hat9; (have HO9 := Lib.hid (show OwnG w.heap.size w9 u9 (P ++ segsTo o (j + 1)) from (by rw [HSA.out, ← List.append_assoc]; exact hown9)); have B79 := hHeld.2.1.grown hg9 (Ne.symm (own_ne (HO8.out.alloc (.cells #[.int .i64 a.1, .int .i64 a.2, .int .i64 b.1, .int .i64 b.2] 38)) hHeld.2.1 (by decide))); have B59 := hHeld.2.2.grown hg9 (Ne.symm (own_ne (HO8.out.alloc (.cells #[.int .i64 a.1, .int .i64 a.2, .int .i64 b.1, .int .i64 b.2] 38)) hHeld.2.2 (by decide))); have HK9 := Lib.hid (hHeld.1.trans hbel9); clear hown9 hg9 hbel9 hat9)))
          refine hK.out _ _ (⟨HK9.out, B79, B59⟩) (fun hHeld2 => ?_)
          clear hK hHeld
          have hHeld := hHeld2
          clear hHeld2 K
          try simp only [List.getElem_toArray, List.getElem_cons_succ, List.getElem_cons_zero, Act.put, List.setIfInBounds_toArray, List.set_cons_zero, List.set_cons_succ]
          refine wpAnyH_take (i := 15) (v := ?_) rfl (by kernel_rfl) (by kernel_rfl) (by kernel_rfl) (fun _ _ _ h => h) (Or.inl ⟨by kernel_rfl, ?_⟩) (by assumption) ?_
          rotate_left
          · (intro w' hSw; obtain ⟨S1, S2, S3⟩ := hSw; have r0 : w'.cell? ⟨g7, 0, none⟩ = some (.int .i64 a.1) := S2.cell 0; have r1 : w'.cell? ⟨g7, 1, none⟩ = some (.int .i64 a.2) := S2.cell 1; have r2 : w'.cell? ⟨g5, 0, none⟩ = some (.slice (some ⟨bS, offS, none⟩) m cS) := S3.cell 0; have r3 := (S1.cell (p := ⟨bS, offS + q * 2, none⟩) hbS).trans b_0; have r4 := (S1.cell (p := ⟨bS, offS + q * 2 + 1, none⟩) hbS).trans b_1; clear S1 S2 S3; go_simp; try with_reducible rfl)
          try simp only [List.getElem_toArray, List.getElem_cons_succ, List.getElem_cons_zero, Act.put, List.setIfInBounds_toArray, List.set_cons_zero, List.set_cons_succ]
          refine wpAnyH_done (by kernel_rfl) ?_ _
          go_wp2_with fail
          exact ⟨⟨j + 1, by omega, by go_num, HO9, Lib.hid B59, ⟨_, HK9.out⟩, rfl⟩, by simp [intOf]; omega⟩
        · have hjm : j = m := by omega
          subst hjm
          have HE := Lib.hid (show OwnG w.heap.size y6.1 u3 (segsL (l.take (k + 1))) by rw [HSC.out, HSO.out]; exact HO6.out)
          go_wp2_with fail
          go_roundw
          case rel => exact ⟨k + 1, by omega, by go_num, HE, y6, rfl⟩
          case measure => simp [intOf]; omega
    · have hkn : k = n := by omega
      subst hkn
      have HE := Lib.hid (show OwnG w.heap.size y.1 u3 (segsL l) by have := HO.out; rwa [List.take_of_length_le (by rw [HL.out]; exact Nat.le_refl _)] at this)
      go_wp2_with fail
      go_ret
      exact ⟨⟨_, rfl, HE.out⟩, y.2⟩
set_option maxHeartbeats 8000000 in
theorem segsR_any (v : Value) (l : List (List Pt)) (w : World) (h : RdPols w v l) (hl : l.length ≤ 1000000000) (hb : (segsL l).length ≤ 1000000000) :
    Calls Try.prog 23 #[v] w fun e w' => (∃ u, e = .returned u ∧ OwnG w.heap.size w' u (segsL l)) ∧ Below w.heap.size w w' := by
  obtain ⟨A, capA, rfl, hcapA, hopA⟩ := pols_open h
  have HA := Lib.hid hopA
  obtain ⟨n, hL⟩ : ∃ n, l.length = n := ⟨_, rfl⟩
  have HL := Lib.hid hL
  rw [hL] at hcapA hl ⊢
  clear hL hopA h
  go_enter Try.func23, Try.ntmps23
  go_wp2_with fail
  go_loopw [3, 4] (fun u i wr => ∃ k : Nat, k ≤ n ∧ i = .int .i64 k ∧ Hid (OwnG w.heap.size wr u (segsL (l.take k))) ∧ ∃ y : Kin w, y.1 = wr) (fun _ i _ => n - (intOf i).toNat)
  case atStart => exact ⟨0, Nat.zero_le _, rfl, Lib.hid (World.ownsRow_nil _ _ _ _), ⟨_, Below.refl _ _⟩, rfl⟩
  case round =>
    obtain ⟨k, hk, rfl, HO, y, rfl⟩ := hrel
    by_cases hlt : k < n
    · obtain ⟨o, ho⟩ : ∃ o, l[k]? = some o := ⟨_, List.getElem?_eq_getElem (by rw [HL.out]; exact hlt)⟩
      obtain ⟨bA, offA, rfl, hbA, hcA⟩ := HA.out k o ho
      obtain ⟨S, cS, o_0, hcS, hrS⟩ := hcA k o ho
      have HSC := Lib.hid (segsL_succ ho)
      have hbd := segsL_le l (k + 1)
      rw [HSC.out, List.length_append] at hbd
      obtain ⟨m, hm⟩ : ∃ m, o.length = m := ⟨_, rfl⟩
      have hlo : (segsO o).length = m := by unfold segsO; rw [segsTo_len, hm]
      rw [hlo] at hbd
      rw [hm] at o_0 hcS hrS
      have HM := Lib.hid hm
      have HRS := Lib.hid hrS
      have HSO := Lib.hid (show segsO o = segsTo o m by unfold segsO; rw [hm])
      obtain ⟨P, hP⟩ : ∃ P, segsL (l.take k) = P := ⟨_, rfl⟩
      rw [hP] at HO HSC hbd
      clear hcA ho hm hrS hlo hP
      go_wp2_with fail
      have HO5 := HO
      clear HO
      go_loopw [3, 6] (fun u i wr => ∃ j : Nat, j ≤ m ∧ i = .int .i64 j ∧ Hid (OwnG w.heap.size wr u (P ++ segsTo o j)) ∧ ∃ y : Kin w, y.1 = wr) (fun _ i _ => m - (intOf i).toNat)
      case atStart => exact ⟨0, Nat.zero_le _, rfl, Lib.hid (by simpa [segsTo] using HO5.out), y, rfl⟩
      case round =>
        obtain ⟨j, hj, rfl, HO6, y6, rfl⟩ := hrel
        by_cases hlt2 : j < m
        · obtain ⟨a, ha⟩ : ∃ a, o[j]? = some a := ⟨_, List.getElem?_eq_getElem (by rw [HM.out]; exact hlt2)⟩
          obtain ⟨q, hq⟩ : ∃ q, (j + 1) % m = q := ⟨_, rfl⟩
          have hqm : q < m := by rw [← hq]; exact Nat.mod_lt _ (by omega)
          obtain ⟨b, hb'⟩ : ∃ b, o[q]? = some b := ⟨_, List.getElem?_eq_getElem (by rw [HM.out]; exact hqm)⟩
          have HSA := Lib.hid (show segsTo o (j + 1) = segsTo o j ++ [(a, b)] by rw [segsTo_succ, segAt_is HM.out ha (by rw [hq]; exact hb')])
          obtain ⟨bS, offS, rfl, hbS, hcc⟩ := Rd.op HRS.out j a ha
          have a_0 : w.cell? ⟨bS, offS + j * 2, none⟩ = some (.int .i64 a.1) := hcc j a ha 0 _ rfl
          have a_1 : w.cell? ⟨bS, offS + j * 2 + 1, none⟩ = some (.int .i64 a.2) := hcc j a ha 1 _ rfl
          have b_0 : w.cell? ⟨bS, offS + q * 2, none⟩ = some (.int .i64 b.1) := hcc q b hb' 0 _ rfl
          have b_1 : w.cell? ⟨bS, offS + q * 2 + 1, none⟩ = some (.int .i64 b.2) := hcc q b hb' 1 _ rfl
          have e1 : IntKind.i64.wrap ((j : Int) + 1) = (j : Int) + 1 := IntWalk.i64_in _ (by omega)
          have e2 : ((j : Int) + 1).tmod (m : Int) = (q : Int) := by rw [Int.tmod_eq_emod_of_nonneg (by omega), ← hq]; rfl
          have e2b : ((j : Int) + 1) % (m : Int) = (q : Int) := by rw [← hq]; rfl
          have e3 : IntKind.i64.wrap (q : Int) = (q : Int) := IntWalk.i64_in _ (by omega)
          have e4 : ¬ (m : Int) = 0 := by omega
          have e4b : ¬ m = 0 := by omega
          have e5 : (q : Int) < (m : Int) := by omega
          have hlen6 : (P ++ segsTo o j).length ≤ 1000000000 := by rw [List.length_append, segsTo_len]; omega
          have mixed : Try.prog.follows .mixedOrders = true := by kernel_rfl
          clear hcc ha hb' hq
          go_wp2_with fail
          refine wp_region_held_drew (S := fun w' => Below w.heap.size w w') (by kernel_rfl) (y6.2.drew) (fun hHeld => ?_)
          try simp only [List.size_toArray, List.length_cons, List.length_nil, Nat.zero_add, Nat.reduceAdd, List.replicate, Array.replicate]
          obtain ⟨y8, hy8⟩ : ∃ y8 : Kin w, y8.1 = y6.1.drew := ⟨⟨y6.1.drew, y6.2.drew⟩, rfl⟩
          have HO8 := Lib.hid (own_below HO6.out (show Below y6.1.heap.size y6.1 y8.1 from hy8 ▸ Below.drew (Below.refl _ _)))
          rw [← hy8] at hHeld ⊢
          clear hy8 HO6
          refine wpAnyH_take (i := 0) (v := ?_) rfl (by kernel_rfl) (by kernel_rfl) (by kernel_rfl) (fun _ _ _ h => h) (Or.inl ⟨by kernel_rfl, ?_⟩) (by assumption) ?_
          rotate_left
          · (intro w' hSw; have S1 := hSw; have r1 := (S1.cell (p := ⟨bS, offS + j * 2, none⟩) hbS).trans a_0; have r2 := (S1.cell (p := ⟨bS, offS + j * 2 + 1, none⟩) hbS).trans a_1; have r3 := (S1.cell (p := ⟨bS, offS + q * 2, none⟩) hbS).trans b_0; have r4 := (S1.cell (p := ⟨bS, offS + q * 2 + 1, none⟩) hbS).trans b_1; clear S1; go_simp; try with_reducible rfl)
          try simp only [List.getElem_toArray, List.getElem_cons_succ, List.getElem_cons_zero, Act.put, List.setIfInBounds_toArray, List.set_cons_zero, List.set_cons_succ]
          refine wpAnyH_take (i := 1) (v := ?_) rfl (by kernel_rfl) (by kernel_rfl) (by kernel_rfl) (fun _ _ _ h => h) (Or.inl ⟨by kernel_rfl, ?_⟩) (by assumption) ?_
          rotate_left
          · (intro w' hSw; have S1 := hSw; have r1 := (S1.cell (p := ⟨bS, offS + j * 2, none⟩) hbS).trans a_0; have r2 := (S1.cell (p := ⟨bS, offS + j * 2 + 1, none⟩) hbS).trans a_1; have r3 := (S1.cell (p := ⟨bS, offS + q * 2, none⟩) hbS).trans b_0; have r4 := (S1.cell (p := ⟨bS, offS + q * 2 + 1, none⟩) hbS).trans b_1; clear S1; go_simp; try with_reducible rfl)
          try simp only [List.getElem_toArray, List.getElem_cons_succ, List.getElem_cons_zero, Act.put, List.setIfInBounds_toArray, List.set_cons_zero, List.set_cons_succ]
          refine wpAnyH_take (i := 2) (v := ?_) rfl (by kernel_rfl) (by kernel_rfl) (by kernel_rfl) (fun _ _ _ h => h) (Or.inl ⟨by kernel_rfl, ?_⟩) (by assumption) ?_
          rotate_left
          · (intro w' hSw; have S1 := hSw; have r1 := (S1.cell (p := ⟨bS, offS + j * 2, none⟩) hbS).trans a_0; have r2 := (S1.cell (p := ⟨bS, offS + j * 2 + 1, none⟩) hbS).trans a_1; have r3 := (S1.cell (p := ⟨bS, offS + q * 2, none⟩) hbS).trans b_0; have r4 := (S1.cell (p := ⟨bS, offS + q * 2 + 1, none⟩) hbS).trans b_1; clear S1; go_simp; try with_reducible rfl)
          try simp only [List.getElem_toArray, List.getElem_cons_succ, List.getElem_cons_zero, Act.put, List.setIfInBounds_toArray, List.set_cons_zero, List.set_cons_succ]
          refine wpAnyH_take (i := 3) (v := ?_) rfl (by kernel_rfl) (by kernel_rfl) (by kernel_rfl) (fun _ _ _ h => h) (Or.inl ⟨by kernel_rfl, ?_⟩) (by assumption) ?_
          rotate_left
          · (intro w' hSw; have S1 := hSw; have r1 := (S1.cell (p := ⟨bS, offS + j * 2, none⟩) hbS).trans a_0; have r2 := (S1.cell (p := ⟨bS, offS + j * 2 + 1, none⟩) hbS).trans a_1; have r3 := (S1.cell (p := ⟨bS, offS + q * 2, none⟩) hbS).trans b_0; have r4 := (S1.cell (p := ⟨bS, offS + q * 2 + 1, none⟩) hbS).trans b_1; clear S1; go_simp; try with_reducible rfl)
          try simp only [List.getElem_toArray, List.getElem_cons_succ, List.getElem_cons_zero, Act.put, List.setIfInBounds_toArray, List.set_cons_zero, List.set_cons_succ]
          refine wpAnyH_take (i := 4) (v := ?_) rfl (by kernel_rfl) (by kernel_rfl) (by kernel_rfl) (fun _ _ _ h => h) (Or.inl ⟨by kernel_rfl, ?_⟩) (by assumption) ?_
          rotate_left
          · (intro w' hSw; have S1 := hSw; have r1 := (S1.cell (p := ⟨bS, offS + j * 2, none⟩) hbS).trans a_0; have r2 := (S1.cell (p := ⟨bS, offS + j * 2 + 1, none⟩) hbS).trans a_1; have r3 := (S1.cell (p := ⟨bS, offS + q * 2, none⟩) hbS).trans b_0; have r4 := (S1.cell (p := ⟨bS, offS + q * 2 + 1, none⟩) hbS).trans b_1; clear S1; go_simp; try with_reducible rfl)
          try simp only [List.getElem_toArray, List.getElem_cons_succ, List.getElem_cons_zero, Act.put, List.setIfInBounds_toArray, List.set_cons_zero, List.set_cons_succ]
          refine wpAnyH_take (i := 5) (v := ?_) rfl (by kernel_rfl) (by kernel_rfl) (by kernel_rfl) (fun _ _ _ h => h) (Or.inl ⟨by kernel_rfl, ?_⟩) (by assumption) ?_
          rotate_left
          · (intro w' hSw; have S1 := hSw; have r1 := (S1.cell (p := ⟨bS, offS + j * 2, none⟩) hbS).trans a_0; have r2 := (S1.cell (p := ⟨bS, offS + j * 2 + 1, none⟩) hbS).trans a_1; have r3 := (S1.cell (p := ⟨bS, offS + q * 2, none⟩) hbS).trans b_0; have r4 := (S1.cell (p := ⟨bS, offS + q * 2 + 1, none⟩) hbS).trans b_1; clear S1; go_simp; try with_reducible rfl)
          try simp only [List.getElem_toArray, List.getElem_cons_succ, List.getElem_cons_zero, Act.put, List.setIfInBounds_toArray, List.set_cons_zero, List.set_cons_succ]
          refine wpAnyH_take (i := 6) (v := ?_) rfl (by kernel_rfl) (by kernel_rfl) (by kernel_rfl) (fun _ _ _ h => h) (Or.inl ⟨by kernel_rfl, ?_⟩) (by assumption) ?_
          rotate_left
          · (intro w' hSw; have S1 := hSw; have r1 := (S1.cell (p := ⟨bS, offS + j * 2, none⟩) hbS).trans a_0; have r2 := (S1.cell (p := ⟨bS, offS + j * 2 + 1, none⟩) hbS).trans a_1; have r3 := (S1.cell (p := ⟨bS, offS + q * 2, none⟩) hbS).trans b_0; have r4 := (S1.cell (p := ⟨bS, offS + q * 2 + 1, none⟩) hbS).trans b_1; clear S1; go_simp; try with_reducible rfl)
          try simp only [List.getElem_toArray, List.getElem_cons_succ, List.getElem_cons_zero, Act.put, List.setIfInBounds_toArray, List.set_cons_zero, List.set_cons_succ]
          refine wpAnyH_take (i := 7) (v := ?_) rfl (by kernel_rfl) (by kernel_rfl) (by kernel_rfl) (fun _ _ _ h => h) (Or.inl ⟨by kernel_rfl, ?_⟩) (by assumption) ?_
          rotate_left
          · (intro w' hSw; have S1 := hSw; have r1 := (S1.cell (p := ⟨bS, offS + j * 2, none⟩) hbS).trans a_0; have r2 := (S1.cell (p := ⟨bS, offS + j * 2 + 1, none⟩) hbS).trans a_1; have r3 := (S1.cell (p := ⟨bS, offS + q * 2, none⟩) hbS).trans b_0; have r4 := (S1.cell (p := ⟨bS, offS + q * 2 + 1, none⟩) hbS).trans b_1; clear S1; go_simp; try with_reducible rfl)
          try simp only [List.getElem_toArray, List.getElem_cons_succ, List.getElem_cons_zero, Act.put, List.setIfInBounds_toArray, List.set_cons_zero, List.set_cons_succ]
          refine wpAnyH_take (i := 8) (v := ?_) rfl (by kernel_rfl) (by kernel_rfl) (by kernel_rfl) (fun _ _ _ h => h) (Or.inl ⟨by kernel_rfl, ?_⟩) (by assumption) ?_
          rotate_left
          · (intro w' hSw; have S1 := hSw; have r1 := (S1.cell (p := ⟨bS, offS + j * 2, none⟩) hbS).trans a_0; have r2 := (S1.cell (p := ⟨bS, offS + j * 2 + 1, none⟩) hbS).trans a_1; have r3 := (S1.cell (p := ⟨bS, offS + q * 2, none⟩) hbS).trans b_0; have r4 := (S1.cell (p := ⟨bS, offS + q * 2 + 1, none⟩) hbS).trans b_1; clear S1; go_simp; try with_reducible rfl)
          try simp only [List.getElem_toArray, List.getElem_cons_succ, List.getElem_cons_zero, Act.put, List.setIfInBounds_toArray, List.set_cons_zero, List.set_cons_succ]
          refine wpAnyH_take (i := 9) (v := ?_) rfl (by kernel_rfl) (by kernel_rfl) (by kernel_rfl) (fun _ _ _ h => h) (Or.inl ⟨by kernel_rfl, ?_⟩) (by assumption) ?_
          rotate_left
          · (intro w' hSw; have S1 := hSw; have r1 := (S1.cell (p := ⟨bS, offS + j * 2, none⟩) hbS).trans a_0; have r2 := (S1.cell (p := ⟨bS, offS + j * 2 + 1, none⟩) hbS).trans a_1; have r3 := (S1.cell (p := ⟨bS, offS + q * 2, none⟩) hbS).trans b_0; have r4 := (S1.cell (p := ⟨bS, offS + q * 2 + 1, none⟩) hbS).trans b_1; clear S1; go_simp; try with_reducible rfl)
          try simp only [List.getElem_toArray, List.getElem_cons_succ, List.getElem_cons_zero, Act.put, List.setIfInBounds_toArray, List.set_cons_zero, List.set_cons_succ]
          refine wpAnyH_take (i := 10) (v := ?_) rfl (by kernel_rfl) (by kernel_rfl) (by kernel_rfl) (fun _ _ _ h => h) (Or.inl ⟨by kernel_rfl, ?_⟩) (by assumption) ?_
          rotate_left
          · (intro w' hSw; have S1 := hSw; have r1 := (S1.cell (p := ⟨bS, offS + j * 2, none⟩) hbS).trans a_0; have r2 := (S1.cell (p := ⟨bS, offS + j * 2 + 1, none⟩) hbS).trans a_1; have r3 := (S1.cell (p := ⟨bS, offS + q * 2, none⟩) hbS).trans b_0; have r4 := (S1.cell (p := ⟨bS, offS + q * 2 + 1, none⟩) hbS).trans b_1; clear S1; go_simp; try with_reducible rfl)
          try simp only [List.getElem_toArray, List.getElem_cons_succ, List.getElem_cons_zero, Act.put, List.setIfInBounds_toArray, List.set_cons_zero, List.set_cons_succ]
          refine wpAnyH_take (i := 11) (v := ?_) rfl (by kernel_rfl) (by kernel_rfl) (by kernel_rfl) (fun _ _ _ h => h) (Or.inl ⟨by kernel_rfl, ?_⟩) (by assumption) ?_
          rotate_left
          · (intro w' hSw; have S1 := hSw; have r1 := (S1.cell (p := ⟨bS, offS + j * 2, none⟩) hbS).trans a_0; have r2 := (S1.cell (p := ⟨bS, offS + j * 2 + 1, none⟩) hbS).trans a_1; have r3 := (S1.cell (p := ⟨bS, offS + q * 2, none⟩) hbS).trans b_0; have r4 := (S1.cell (p := ⟨bS, offS + q * 2 + 1, none⟩) hbS).trans b_1; clear S1; go_simp; try with_reducible rfl)
          try simp only [List.getElem_toArray, List.getElem_cons_succ, List.getElem_cons_zero, Act.put, List.setIfInBounds_toArray, List.set_cons_zero, List.set_cons_succ]
          refine wpAnyH_take (i := 12) (v := ?_) rfl (by kernel_rfl) (by kernel_rfl) (by kernel_rfl) (fun _ _ _ h => h) (Or.inl ⟨by kernel_rfl, ?_⟩) (by assumption) ?_
          rotate_left
          · (intro w' hSw; have S1 := hSw; have r1 := (S1.cell (p := ⟨bS, offS + j * 2, none⟩) hbS).trans a_0; have r2 := (S1.cell (p := ⟨bS, offS + j * 2 + 1, none⟩) hbS).trans a_1; have r3 := (S1.cell (p := ⟨bS, offS + q * 2, none⟩) hbS).trans b_0; have r4 := (S1.cell (p := ⟨bS, offS + q * 2 + 1, none⟩) hbS).trans b_1; clear S1; go_simp; try with_reducible rfl)
          try simp only [List.getElem_toArray, List.getElem_cons_succ, List.getElem_cons_zero, Act.put, List.setIfInBounds_toArray, List.set_cons_zero, List.set_cons_succ]
          refine wpAnyH_take (i := 13) (v := ?_) rfl (by kernel_rfl) (by kernel_rfl) (by kernel_rfl) (fun _ _ _ h => h) (Or.inl ⟨by kernel_rfl, ?_⟩) (by assumption) ?_
          rotate_left
          · (intro w' hSw; have S1 := hSw; have r1 := (S1.cell (p := ⟨bS, offS + j * 2, none⟩) hbS).trans a_0; have r2 := (S1.cell (p := ⟨bS, offS + j * 2 + 1, none⟩) hbS).trans a_1; have r3 := (S1.cell (p := ⟨bS, offS + q * 2, none⟩) hbS).trans b_0; have r4 := (S1.cell (p := ⟨bS, offS + q * 2 + 1, none⟩) hbS).trans b_1; clear S1; go_simp; try with_reducible rfl)
          try simp only [List.getElem_toArray, List.getElem_cons_succ, List.getElem_cons_zero, Act.put, List.setIfInBounds_toArray, List.set_cons_zero, List.set_cons_succ]
          refine wpAnyH_ready (rs := [14]) (by kernel_rfl) (by simp) (AllReadyH.cons rfl (fun K hK => ?_) AllReadyH.nil)
          go_simp
          refine hK.out _ _ (hHeld.alloc hHeld.size _) (fun hHeld2 => ?_)
          clear hK hHeld
          have hHeld := hHeld2
          clear hHeld2 K
          try simp only [List.getElem_toArray, List.getElem_cons_succ, List.getElem_cons_zero, Act.put, List.setIfInBounds_toArray, List.set_cons_zero, List.set_cons_succ]
          refine wpAnyH_ready (rs := [15]) (by kernel_rfl) (by simp) (AllReadyH.cons rfl (fun K hK => ?_) AllReadyH.nil)
          (skip; (refine step_app _ rfl _ _ 22 rfl encSg_len (by decide) oneSg w.heap.size 38 (.agg #[.int .i64 0, .int .i64 0, .int .i64 0, .int .i64 0]) 32 infoSg rfl Try.underlying22 (u3) _ _ _ (by first | rfl | simp [Act.eval, Act.put]) (HO8.out.alloc _) _ _ _ (by first | rfl | simp [Act.eval, Act.put]) (rd_one _ encSg_len _ (a, b) _ rfl) ?c1 (by decide) ?c2 ?_; (case c1 => (first | (simp only [List.length_append, List.length_cons, List.length_nil]; omega) | omega | (simp; omega))); (case c2 => exact (by repeat (first | with_reducible exact Nat.le_refl _ | assumption | with_reducible refine le_alloc ?_ _ | with_reducible refine le_drew ?_ | with_reducible refine Kin.le _ ?_ | assumption | omega | (simp only [World.size_alloc]; omega)))); intro u9 w9 hown9 hg9 hbel9 hat9; (have HO9 := Lib.hid (show OwnG w.heap.size w9 u9 (P ++ segsTo o (j + 1)) from (by rw [HSA.out, ← List.append_assoc]; exact hown9)); have HK9 := Lib.hid (hHeld.trans hbel9); clear hown9 hg9 hbel9 hat9)))
          refine hK.out _ _ (HK9.out) (fun hHeld2 => ?_)
          clear hK hHeld
          have hHeld := hHeld2
          clear hHeld2 K
          try simp only [List.getElem_toArray, List.getElem_cons_succ, List.getElem_cons_zero, Act.put, List.setIfInBounds_toArray, List.set_cons_zero, List.set_cons_succ]
          refine wpAnyH_take (i := 16) (v := ?_) rfl (by kernel_rfl) (by kernel_rfl) (by kernel_rfl) (fun _ _ _ h => h) (Or.inl ⟨by kernel_rfl, ?_⟩) (by assumption) ?_
          rotate_left
          · (intro w' hSw; have S1 := hSw; have r1 := (S1.cell (p := ⟨bS, offS + j * 2, none⟩) hbS).trans a_0; have r2 := (S1.cell (p := ⟨bS, offS + j * 2 + 1, none⟩) hbS).trans a_1; have r3 := (S1.cell (p := ⟨bS, offS + q * 2, none⟩) hbS).trans b_0; have r4 := (S1.cell (p := ⟨bS, offS + q * 2 + 1, none⟩) hbS).trans b_1; clear S1; go_simp; try with_reducible rfl)
          try simp only [List.getElem_toArray, List.getElem_cons_succ, List.getElem_cons_zero, Act.put, List.setIfInBounds_toArray, List.set_cons_zero, List.set_cons_succ]
          refine wpAnyH_done (by kernel_rfl) ?_ _
          go_wp2_with fail
          exact ⟨⟨j + 1, by omega, by go_num, HO9, ⟨_, HK9.out⟩, rfl⟩, by simp [intOf]; omega⟩
        · have hjm : j = m := by omega
          subst hjm
          have HE := Lib.hid (show OwnG w.heap.size y6.1 u3 (segsL (l.take (k + 1))) by rw [HSC.out, HSO.out]; exact HO6.out)
          go_wp2_with fail
          go_roundw
          case rel => exact ⟨k + 1, by omega, by go_num, HE, y6, rfl⟩
          case measure => simp [intOf]; omega
    · have hkn : k = n := by omega
      subst hkn
      have HE := Lib.hid (show OwnG w.heap.size y.1 u3 (segsL l) by have := HO.out; rwa [List.take_of_length_le (by rw [HL.out]; exact Nat.le_refl _)] at this)
      go_wp2_with fail
      go_ret
      exact ⟨⟨_, rfl, HE.out⟩, y.2⟩
end Go.Proofs.Yteadnlodccnfcaa

/- Proved: TopTraces returns true for every input, and the arguments read behind the call as before. No condition. -/
import Derived.Test.YtneelidbgigehaaGreatTopSc
import Derived.Test.YtneelidbgigehaaGreatTopKit
import Derived.Test.YtneelidbgigehaaGreatRegSameA
namespace Go.Proofs.YtneelidbgigehaaGreat
set_option linter.unusedSimpArgs false
set_option linter.unusedVariables false
set_option maxRecDepth 100000
open Go.ChangeShapes Go.WideShapes Go.ChangeAt Go.RowKit Go.Joins Trc Runs Reg Ras
attribute [local go_sem] Kin.cell Kin.frozen Kin.lt0 Kin.lt1 Kin.lt2 Kin.lt3 run_mkf
theorem ras_is {rows : List Reg.Row} (v : Value) (l : List (List P2)) (p : Int) (w : World) (h : RdPols w v l) (hf : FewP l) (hE : rasE l p = 0) (hR : rasR l p = rows) :
    Calls Tryz.prog 8 #[v, .int .i64 p] w fun e w' => (∃ S, e = .returned (.tuple #[.agg #[S], .int .i64 0]) ∧ RdReg w' (.agg #[S]) rows) ∧ Below w.heap.size w w' := by
  refine (raster_any v l p w h hf).mono fun e w' ⟨⟨A, n, c, he, hr⟩, hb⟩ => ⟨⟨.slice A n c, ?_, ?_⟩, hb⟩
  · rw [he, hE]
  · have e0 : rasO l p = rasR l p := by unfold rasO; rw [if_pos hE]
    rw [e0, hR] at hr; exact hr
theorem same18_yes (v u : Value) (a : List Reg.Row) (w : World) (ha : RdReg w v a) (hb : RdReg w u a) (ba : RBd a) :
    Calls Tryz.prog 11 #[v, u] w fun e w' => e = .returned (.bool true) ∧ Below w.heap.size w w' := by
  have := same18_any v u a a w ha hb ba ba
  simpa using this
theorem rbd_of {rows : List Reg.Row} (hv : VReg rows) : RBd rows := ⟨by have := (vreg_len hv).1; omega, fun r hr => by have := (vreg_len hv).2 r hr; omega⟩
theorem sq3_is : sqR 1 2 3 3 = sq3 := by decide
theorem square3 (w : World) : Calls Tryz.prog 21 #[.int .i64 1, .int .i64 2, .int .i64 3] w fun e w' => (∃ S, e = .returned (.agg #[S]) ∧ RdReg w' (.agg #[S]) sq3) ∧ Below w.heap.size w w' := by
  have h := square_any 1 2 3 w (by omega) (by omega) (by omega)
  rw [sq3_is] at h
  exact h
theorem sq3_near : Near1 sq3 := fun x y h => by
  obtain ⟨w, hw, e, hm⟩ := memC_iff.1 h
  obtain ⟨r, hr, h1, h2⟩ := mem_iff.1 hm
  unfold sq3 at hw
  simp at hw
  rcases hw with rfl | rfl | rfl <;> simp at hr <;> subst hr <;> simp at h1 h2 e <;> omega
theorem sq3_len : lenTo sq3 3 = 12 := by decide
theorem sq3_lb : ∀ r ∈ sq3, 0 ≤ lenL (setop (opf 0) r.2 (rwAt sq3 (r.1 - 1))) ∧ lenL (setop (opf 0) r.2 (rwAt sq3 (r.1 - 1))) ≤ 10000 ∧ 0 ≤ lenL (setop (opf 0) r.2 (rwAt sq3 (r.1 + 1))) ∧ lenL (setop (opf 0) r.2 (rwAt sq3 (r.1 + 1))) ≤ 10000 := by decide
theorem len12 (s : Value) (w : World) (h : RdRows w s sq3) : Calls Tryz.prog 22 #[.agg #[s]] w fun e w' => e = .returned (.int .i64 12) ∧ Below w.heap.size w w' := by
  have := lengthB_any s sq3 w h sq3_v (by decide) sq3_lb
  rw [show sq3.length = 3 from rfl, sq3_len] at this
  exact this
theorem rdreg_rows {w : World} {S : Value} {rows : List Reg.Row} (h : RdReg w (.agg #[S]) rows) : RdRows w S rows := by
  obtain ⟨s, e, h⟩ := h
  injection e with e
  have : S = s := by simpa using e
  rw [this]; exact h
set_option maxHeartbeats 8000000 in
theorem traced_any (w : World) : Calls Tryz.prog 7 #[] w fun e w' => e = .returned (.bool true) ∧ Below w.heap.size w w' := by
  go_enter Tryz.func7, Tryz.ntmps7
  go_wp2_with fail
  (go_at_call 21; (with_reducible refine (Kin.callK (W := w) (by repeat (first | with_reducible (first | exact blA | exact blB | refine blC _ ?_ | refine blD ?_ ?_ _ | refine blE ?_ | refine blF _ ?_ | refine blG ?_ _ | refine blH ?_ | refine blI ?_ ?_ _) | (simp only [World.size_alloc]; omega) | (simp <;> omega))) (square3 _)).mono ?_); rintro e w' ⟨z1, ⟨S, rfl, hS⟩, hz1, rfl⟩; skip)
  obtain ⟨W1, hW1⟩ : ∃ W1, z1.1 = W1 := ⟨_, rfl⟩
  have hb1 := z1.2
  rw [hW1] at hS hb1 ⊢
  have hS1 := rdreg_rows hS
  obtain ⟨AS, cS, hSe, _⟩ := rows_open hS1
  rw [show sq3.length = 3 from rfl] at hSe
  subst hSe
  have HS1 := Lib.hid hS1
  have HB1 := Lib.hid hb1
  clear hW1 hz1 hb1 hS hS1
  go_wp2_with fail
  obtain ⟨W2, hW2⟩ : ∃ W2, W1.alloc (.cells #[.slice AS 3 cS] 24) = W2 := ⟨_, rfl⟩
  obtain ⟨gr, hgr⟩ : ∃ gr, W1.heap.size = gr := ⟨_, rfl⟩
  have hb2 : Below W1.heap.size W1 W2 := hW2 ▸ (Below.refl _ _).alloc (Nat.le_refl _) _
  have B2 : Blk W2 gr 24 #[.slice AS 3 cS] := by rw [← hW2, ← hgr]; exact Blk.new _ _ _
  have HS2 := Lib.hid (RdN.below HS1.out hb2)
  have HB2 := Lib.hid (HB1.out.trans (hb2.mono HB1.out.size))
  have HBR := Lib.hid B2
  rw [hW2, hgr]
  clear hW2 hgr hb2 B2
  (go_at_call 10; (with_reducible refine (Kin.callK (W := W2) (by repeat (first | with_reducible (first | exact blA | exact blB | refine blC _ ?_ | refine blD ?_ ?_ _ | refine blE ?_ | refine blF _ ?_ | refine blG ?_ _ | refine blH ?_ | refine blI ?_ ?_ _) | (simp only [World.size_alloc]; omega) | (simp <;> omega))) (trace_any (.slice AS 3 cS) sq3 _ HS2.out sq3_v (by rw [sq3_ck]; decide))).mono ?_); rintro e w' ⟨z3, ⟨u, os, rfl, htr, hos⟩, hz3, rfl⟩; skip)
  have HTR := Lib.hid htr
  have hoe := sq3_tr htr
  obtain ⟨W3, hW3⟩ : ∃ W3, z3.1 = W3 := ⟨_, rfl⟩
  have hb3 := z3.2
  rw [hW3] at hos hb3 ⊢
  have HOS := Lib.hid hos
  rw [hoe] at hos
  have HOE := Lib.hid hoe
  obtain ⟨A, capA, rfl, hcapA, hop⟩ := pols_open hos
  obtain ⟨bA, offA, rfl, hbA, hcA⟩ := hop 0 _ rfl
  obtain ⟨SA, cA, o_0, hcS, _⟩ := hcA 0 _ rfl
  have o_0' : W3.cell? ⟨bA, offA, none⟩ = some (.slice SA 4 cA) := by simpa using o_0
  have B3 := HBR.out.below hb3
  have r_0 : W3.cell? ⟨gr, 0, none⟩ = some (.slice AS 3 cS) := B3.cell 0
  have r_l := B3.lt
  have HB3 := Lib.hid (HB2.out.trans (hb3.mono HB2.out.size))
  have HS3 := Lib.hid (RdN.below HS2.out hb3)
  have HR3 := Lib.hid B3
  simp only [List.length_cons, List.length_nil, Nat.zero_add] at HOS hcapA ⊢
  clear hW3 hz3 hb3 B3 htr hoe hos hop hcA o_0 hcS HS1 HB1 HS2 HB2 HBR
  obtain ⟨hf, hE, hR⟩ := tr_ras sq3_v HTR.out (by rw [sq3_ck]; decide) sq3_near (n := 40) (by omega) (by omega) (by omega)
  have HF := Lib.hid hf
  have HE := Lib.hid hE
  have HRR := Lib.hid hR
  have h1 : os.length ≤ 16384 := by rw [HOE.out]; decide
  have h2 : ptsN os ≤ 16384 := by rw [HOE.out]; decide
  have h3 : ∀ o ∈ os, ∀ p ∈ o, near6 p := by rw [HOE.out]; unfold near6; decide
  have H1 := Lib.hid h1
  have H2 := Lib.hid h2
  have H3 := Lib.hid h3
  clear hf hE hR h1 h2 h3
  go_wp2_with fail
  (go_at_call 9; (with_reducible refine (Kin.callK (W := W3) (by repeat (first | with_reducible (first | exact blA | exact blB | refine blC _ ?_ | refine blD ?_ ?_ _ | refine blE ?_ | refine blF _ ?_ | refine blG ?_ _ | refine blH ?_ | refine blI ?_ ?_ _) | (simp only [World.size_alloc]; omega) | (simp <;> omega))) (scaled_any _ os 40 _ HOS.out H1.out H2.out (by omega) H3.out)).mono ?_); rintro e w' ⟨z4, ⟨u4, rfl, hu4⟩, hz4, rfl⟩; skip)
  obtain ⟨W4, hW4⟩ : ∃ W4, z4.1 = W4 := ⟨_, rfl⟩
  have hb4 := z4.2
  rw [hW4] at hu4 hb4 ⊢
  have HU4 := Lib.hid hu4
  have HB4 := Lib.hid hb4
  clear hW4 hz4 hb4 hu4
  go_wp2_with fail
  (go_at_call 8; (with_reducible refine (Kin.callK (W := W4) (by repeat (first | with_reducible (first | exact blA | exact blB | refine blC _ ?_ | refine blD ?_ ?_ _ | refine blE ?_ | refine blF _ ?_ | refine blG ?_ _ | refine blH ?_ | refine blI ?_ ?_ _) | (simp only [World.size_alloc]; omega) | (simp <;> omega))) (ras_is _ (scaleL 40 os) 40 _ HU4.out HF.out HE.out HRR.out)).mono ?_); rintro e w' ⟨z5, ⟨S5, rfl, hS5⟩, hz5, rfl⟩; skip)
  obtain ⟨W5, hW5⟩ : ∃ W5, z5.1 = W5 := ⟨_, rfl⟩
  have hb5 := HB4.out.trans (z5.2.mono HB4.out.size)
  rw [hW5] at hS5 hb5 ⊢
  have hr5 := rdreg_rows hS5
  obtain ⟨A5, c5, hSe, _⟩ := rows_open hr5
  rw [show sq3.length = 3 from rfl] at hSe
  subst hSe
  have HR5 := Lib.hid hr5
  have HB5 := Lib.hid (HB3.out.trans (hb5.mono HB3.out.size))
  have HS5 := Lib.hid (RdN.below HS3.out hb5)
  have B5 := HR3.out.below hb5
  have r_0 : W5.cell? ⟨gr, 0, none⟩ = some (.slice AS 3 cS) := B5.cell 0
  have r_l := B5.lt
  have HBR5 := Lib.hid B5
  clear hW5 hz5 hb5 hS5 hr5 B5 HS3 HR3 HB3 HB4 HU4
  go_wp2_with fail
  obtain ⟨W6, hW6⟩ : ∃ W6, W5.alloc (.cells #[.slice A5 3 c5] 24) = W6 := ⟨_, rfl⟩
  have hb6 : Below W5.heap.size W5 W6 := hW6 ▸ (Below.refl _ _).alloc (Nat.le_refl _) _
  rw [hW6]
  have hr6 := RdN.below HR5.out hb6
  have hs6 := RdN.below HS5.out hb6
  have HS6 := Lib.hid hs6
  have B6 := HBR5.out.below hb6
  have r6_0 : W6.cell? ⟨gr, 0, none⟩ = some (.slice AS 3 cS) := B6.cell 0
  have r6_l := B6.lt
  have HB6 := Lib.hid (HB5.out.trans (hb6.mono HB5.out.size))
  have hrd6 : RdReg W6 (.agg #[.slice A5 3 c5]) sq3 := ⟨_, rfl, hr6⟩
  have hrd6' : RdReg W6 (.agg #[.slice AS 3 cS]) sq3 := ⟨_, rfl, hs6⟩
  have HD6 := Lib.hid hrd6
  have HD6' := Lib.hid hrd6'
  clear hW6 hb6 hr6 hs6 B6 hrd6 hrd6'
  (go_at_call 11; (with_reducible refine (Kin.callK (W := W6) (by repeat (first | with_reducible (first | exact blA | exact blB | refine blC _ ?_ | refine blD ?_ ?_ _ | refine blE ?_ | refine blF _ ?_ | refine blG ?_ _ | refine blH ?_ | refine blI ?_ ?_ _) | (simp only [World.size_alloc]; omega) | (simp <;> omega))) (same18_yes _ _ sq3 _ HD6.out HD6'.out (rbd_of sq3_v))).mono ?_); rintro e w' ⟨z7, rfl, hz7, rfl⟩; skip)
  have HS7 := Lib.hid (RdN.below HS6.out z7.2)
  go_wp2_with fail
  (go_at_call 22; (with_reducible refine (Kin.callK (W := W6) (by repeat (first | with_reducible (first | exact blA | exact blB | refine blC _ ?_ | refine blD ?_ ?_ _ | refine blE ?_ | refine blF _ ?_ | refine blG ?_ _ | refine blH ?_ | refine blI ?_ ?_ _) | (simp only [World.size_alloc]; omega) | (simp <;> omega))) (len12 _ _ HS7.out)).mono ?_); rintro e w' ⟨z8, rfl, hz8, rfl⟩; skip)
  go_wp2_with fail
  go_ret
  exact ⟨rfl, HB6.out.trans (z8.2.mono HB6.out.size)⟩
theorem near1_of {rows : List Reg.Row} (h : rvalid rows = true) (hn : nearR rows = true) : Near1 rows ∧ cntR rows ≤ 200 := by
  unfold nearR at hn
  simp only [Bool.and_eq_true, decide_eq_true_eq] at hn
  obtain ⟨⟨⟨⟨h1, h2⟩, h3⟩, h4⟩, h5⟩ := hn
  refine ⟨fun x y hm => ?_, h1⟩
  have := box_in h hm
  omega
set_option maxHeartbeats 16000000 in
theorem topTraces_walk (W : World) (v : Value) (h : IsRegB W v) (vp : Value) (hvp : IsInt vp) : Calls Tryz.prog 3 #[v, vp] W fun e W' => e = .returned (.bool true) ∧ Below W.heap.size W W' := by
  obtain ⟨rows, hr, hbd⟩ := h
  obtain ⟨p, rfl, hp⟩ := hvp
  obtain ⟨s, rfl, hrs⟩ := hr
  have HR := Lib.hid hrs
  have HBD := Lib.hid hbd
  by_cases hv : rvalid rows = true
  · have HVT := Lib.hid hv
    clear hrs hbd hv
    by_cases hn : nearR rows = true
    · have HNB := Lib.hid hn
      clear hn
      by_cases h32 : p < 32
      · have hx : p ≤ 64 := by omega
        go_enter Tryz.func3, Tryz.ntmps3
        go_wp2_with fail
        obtain ⟨W1, hW1⟩ : ∃ W1, W.alloc (.cells #[s] 24) = W1 := ⟨_, rfl⟩
        have hb1 : Below W.heap.size W W1 := hW1 ▸ (Below.refl _ _).alloc (Nat.le_refl _) _
        have hd1 : RdReg W1 (.agg #[s]) rows := ⟨_, rfl, RdN.below HR.out hb1⟩
        have B1 : Blk W1 W.heap.size 24 #[s] := hW1 ▸ Blk.new _ _ _
        have s_0 : W1.cell? ⟨W.heap.size, 0, none⟩ = some s := B1.cell 0
        have s_l := B1.lt
        have HD1 := Lib.hid hd1
        have HB1 := Lib.hid hb1
        have HBL := Lib.hid B1
        rw [hW1]
        clear hW1 hd1 hb1 B1
        (go_at_call 5; (with_reducible refine (Kin.callK (W := W1) (by repeat (first | with_reducible (first | exact blA | exact blB | refine blC _ ?_ | refine blD ?_ ?_ _ | refine blE ?_ | refine blF _ ?_ | refine blG ?_ _ | refine blH ?_ | refine blI ?_ ?_ _) | (simp only [World.size_alloc]; omega) | (simp <;> omega))) (valid18_is _ rows _ HD1.out HBD.out HVT.out)).mono ?_); rintro e w' ⟨z1, rfl, hz1, rfl⟩; skip)
        go_wp2_with fail
        (go_at_call 6; (with_reducible refine (Kin.callK (W := W1) (by repeat (first | with_reducible (first | exact blA | exact blB | refine blC _ ?_ | refine blD ?_ ?_ _ | refine blE ?_ | refine blF _ ?_ | refine blG ?_ _ | refine blH ?_ | refine blI ?_ ?_ _) | (simp only [World.size_alloc]; omega) | (simp <;> omega))) (nearby_is _ rows _ (HD1.out.below (by repeat (first | with_reducible (first | exact blA | exact blB | refine blC _ ?_ | refine blD ?_ ?_ _ | refine blE ?_ | refine blF _ ?_ | refine blG ?_ _ | refine blH ?_ | refine blI ?_ ?_ _) | (simp only [World.size_alloc]; omega) | (simp <;> omega)))) HBD.out HVT.out HNB.out)).mono ?_); rintro e w' ⟨z2, rfl, hz2, rfl⟩; skip)
        go_wp2_with fail
        (go_at_call 7; (with_reducible refine (Kin.callK (W := W1) (by repeat (first | with_reducible (first | exact blA | exact blB | refine blC _ ?_ | refine blD ?_ ?_ _ | refine blE ?_ | refine blF _ ?_ | refine blG ?_ _ | refine blH ?_ | refine blI ?_ ?_ _) | (simp only [World.size_alloc]; omega) | (simp <;> omega))) (traced_any _)).mono ?_); rintro e w' ⟨z9, rfl, hz9, rfl⟩; skip)
        go_wp2_with fail
        go_ret
        exact ⟨rfl, HB1.out.trans (z9.2.mono HB1.out.size)⟩
      · by_cases h64 : 64 < p
        · skip
          go_enter Tryz.func3, Tryz.ntmps3
          go_wp2_with fail
          obtain ⟨W1, hW1⟩ : ∃ W1, W.alloc (.cells #[s] 24) = W1 := ⟨_, rfl⟩
          have hb1 : Below W.heap.size W W1 := hW1 ▸ (Below.refl _ _).alloc (Nat.le_refl _) _
          have hd1 : RdReg W1 (.agg #[s]) rows := ⟨_, rfl, RdN.below HR.out hb1⟩
          have B1 : Blk W1 W.heap.size 24 #[s] := hW1 ▸ Blk.new _ _ _
          have s_0 : W1.cell? ⟨W.heap.size, 0, none⟩ = some s := B1.cell 0
          have s_l := B1.lt
          have HD1 := Lib.hid hd1
          have HB1 := Lib.hid hb1
          have HBL := Lib.hid B1
          rw [hW1]
          clear hW1 hd1 hb1 B1
          (go_at_call 5; (with_reducible refine (Kin.callK (W := W1) (by repeat (first | with_reducible (first | exact blA | exact blB | refine blC _ ?_ | refine blD ?_ ?_ _ | refine blE ?_ | refine blF _ ?_ | refine blG ?_ _ | refine blH ?_ | refine blI ?_ ?_ _) | (simp only [World.size_alloc]; omega) | (simp <;> omega))) (valid18_is _ rows _ HD1.out HBD.out HVT.out)).mono ?_); rintro e w' ⟨z1, rfl, hz1, rfl⟩; skip)
          go_wp2_with fail
          (go_at_call 6; (with_reducible refine (Kin.callK (W := W1) (by repeat (first | with_reducible (first | exact blA | exact blB | refine blC _ ?_ | refine blD ?_ ?_ _ | refine blE ?_ | refine blF _ ?_ | refine blG ?_ _ | refine blH ?_ | refine blI ?_ ?_ _) | (simp only [World.size_alloc]; omega) | (simp <;> omega))) (nearby_is _ rows _ (HD1.out.below (by repeat (first | with_reducible (first | exact blA | exact blB | refine blC _ ?_ | refine blD ?_ ?_ _ | refine blE ?_ | refine blF _ ?_ | refine blG ?_ _ | refine blH ?_ | refine blI ?_ ?_ _) | (simp only [World.size_alloc]; omega) | (simp <;> omega)))) HBD.out HVT.out HNB.out)).mono ?_); rintro e w' ⟨z2, rfl, hz2, rfl⟩; skip)
          go_wp2_with fail
          (go_at_call 7; (with_reducible refine (Kin.callK (W := W1) (by repeat (first | with_reducible (first | exact blA | exact blB | refine blC _ ?_ | refine blD ?_ ?_ _ | refine blE ?_ | refine blF _ ?_ | refine blG ?_ _ | refine blH ?_ | refine blI ?_ ?_ _) | (simp only [World.size_alloc]; omega) | (simp <;> omega))) (traced_any _)).mono ?_); rintro e w' ⟨z9, rfl, hz9, rfl⟩; skip)
          go_wp2_with fail
          go_ret
          exact ⟨rfl, HB1.out.trans (z9.2.mono HB1.out.size)⟩
        · by_cases h2 : p.tmod 2 = 0
          · skip
            go_enter Tryz.func3, Tryz.ntmps3
            go_wp2_with fail
            obtain ⟨W1, hW1⟩ : ∃ W1, W.alloc (.cells #[s] 24) = W1 := ⟨_, rfl⟩
            have hb1 : Below W.heap.size W W1 := hW1 ▸ (Below.refl _ _).alloc (Nat.le_refl _) _
            have hd1 : RdReg W1 (.agg #[s]) rows := ⟨_, rfl, RdN.below HR.out hb1⟩
            have B1 : Blk W1 W.heap.size 24 #[s] := hW1 ▸ Blk.new _ _ _
            have s_0 : W1.cell? ⟨W.heap.size, 0, none⟩ = some s := B1.cell 0
            have s_l := B1.lt
            have HD1 := Lib.hid hd1
            have HB1 := Lib.hid hb1
            have HBL := Lib.hid B1
            rw [hW1]
            clear hW1 hd1 hb1 B1
            (go_at_call 5; (with_reducible refine (Kin.callK (W := W1) (by repeat (first | with_reducible (first | exact blA | exact blB | refine blC _ ?_ | refine blD ?_ ?_ _ | refine blE ?_ | refine blF _ ?_ | refine blG ?_ _ | refine blH ?_ | refine blI ?_ ?_ _) | (simp only [World.size_alloc]; omega) | (simp <;> omega))) (valid18_is _ rows _ HD1.out HBD.out HVT.out)).mono ?_); rintro e w' ⟨z1, rfl, hz1, rfl⟩; skip)
            go_wp2_with fail
            (go_at_call 6; (with_reducible refine (Kin.callK (W := W1) (by repeat (first | with_reducible (first | exact blA | exact blB | refine blC _ ?_ | refine blD ?_ ?_ _ | refine blE ?_ | refine blF _ ?_ | refine blG ?_ _ | refine blH ?_ | refine blI ?_ ?_ _) | (simp only [World.size_alloc]; omega) | (simp <;> omega))) (nearby_is _ rows _ (HD1.out.below (by repeat (first | with_reducible (first | exact blA | exact blB | refine blC _ ?_ | refine blD ?_ ?_ _ | refine blE ?_ | refine blF _ ?_ | refine blG ?_ _ | refine blH ?_ | refine blI ?_ ?_ _) | (simp only [World.size_alloc]; omega) | (simp <;> omega)))) HBD.out HVT.out HNB.out)).mono ?_); rintro e w' ⟨z2, rfl, hz2, rfl⟩; skip)
            obtain ⟨W2, hW2⟩ : ∃ W2, z2.1 = W2 := ⟨_, rfl⟩
            have hb2 := z2.2
            rw [hW2] at hb2 ⊢
            have HD2 := Lib.hid (RdN.below (RdN.below HR.out HB1.out) hb2)
            have HB2 := Lib.hid (HB1.out.trans (hb2.mono HB1.out.size))
            have B2 := HBL.out.below hb2
            have s2_0 : W2.cell? ⟨W.heap.size, 0, none⟩ = some s := B2.cell 0
            have s2_l := B2.lt
            have HBL2 := Lib.hid B2
            clear hW2 hz2 hb2 B2 s_0 s_l hz1
            have hvr := rvalid_iff.1 HVT.out
            have HVR := Lib.hid hvr
            obtain ⟨hn1, hn2⟩ := near1_of HVT.out HNB.out
            have hck := ck_len hvr
            have hck1 : (ckR rows).length ≤ 1000000 := by omega
            have hck2 : (ckR rows).length ≤ 16384 := by omega
            have HCK := Lib.hid hck2
            have HN1 := Lib.hid hn1
            clear hvr hn1 hn2 hck hck2
            go_wp2_with fail
            (go_at_call 10; (with_reducible refine (Kin.callK (W := W2) (by repeat (first | with_reducible (first | exact blA | exact blB | refine blC _ ?_ | refine blD ?_ ?_ _ | refine blE ?_ | refine blF _ ?_ | refine blG ?_ _ | refine blH ?_ | refine blI ?_ ?_ _) | (simp only [World.size_alloc]; omega) | (simp <;> omega))) (trace_any s rows _ HD2.out HVR.out hck1)).mono ?_); rintro e w' ⟨z3, ⟨u, os, rfl, htr, hos⟩, hz3, rfl⟩; skip)
            obtain ⟨W3, hW3⟩ : ∃ W3, z3.1 = W3 := ⟨_, rfl⟩
            have hb3 := z3.2
            rw [hW3] at hos hb3 ⊢
            have HTR := Lib.hid htr
            have HOS := Lib.hid hos
            obtain ⟨hf, hE, hRR⟩ := tr_ras HVR.out htr HCK.out HN1.out (n := p) (by omega) (by omega) (by rw [← Int.tmod_eq_emod_of_nonneg (by omega)]; exact h2)
            have HF := Lib.hid hf
            have HE := Lib.hid hE
            have HRR := Lib.hid hRR
            have h1 : os.length ≤ 16384 ∧ ptsN os ≤ 16384 ∧ ∀ o ∈ os, ∀ q ∈ o, near6 q := by
              obtain ⟨cs, hcs, hm, rfl⟩ := htr
              have hin : ∀ c ∈ ckR rows, c.1 ∈ cs := fun c hc => (hm c.1).2 ⟨c.2, hc⟩
              obtain ⟨p1, p2, p3⟩ := trace_pts HVR.out hcs hin
              have := HCK.out
              refine ⟨by omega, by omega, fun o ho q hq => ?_⟩
              obtain ⟨g, hg⟩ := p1 o ho q hq
              have := (ck_near HVR.out _ hg).1
              unfold near5 at this; unfold near6; simp only at this; omega
            have H1 := Lib.hid h1
            have HD3 := Lib.hid (RdN.below HD2.out hb3)
            have HB3 := Lib.hid (HB2.out.trans (hb3.mono HB2.out.size))
            have B3 := HBL2.out.below hb3
            have HBL3 := Lib.hid B3
            clear hW3 hz3 hb3 B3 htr hos hf hE hRR h1 s2_0 s2_l
            go_wp2_with fail
            (go_at_call 9; (with_reducible refine (Kin.callK (W := W3) (by repeat (first | with_reducible (first | exact blA | exact blB | refine blC _ ?_ | refine blD ?_ ?_ _ | refine blE ?_ | refine blF _ ?_ | refine blG ?_ _ | refine blH ?_ | refine blI ?_ ?_ _) | (simp only [World.size_alloc]; omega) | (simp <;> omega))) (scaled_any _ os p _ HOS.out H1.out.1 H1.out.2.1 (by omega) H1.out.2.2)).mono ?_); rintro e w' ⟨z4, ⟨u4, rfl, hu4⟩, hz4, rfl⟩; skip)
            obtain ⟨W4, hW4⟩ : ∃ W4, z4.1 = W4 := ⟨_, rfl⟩
            have hb4 := z4.2
            rw [hW4] at hu4 hb4 ⊢
            have HU4 := Lib.hid hu4
            have HB4 := Lib.hid hb4
            clear hW4 hz4 hb4 hu4
            go_wp2_with fail
            (go_at_call 8; (with_reducible refine (Kin.callK (W := W4) (by repeat (first | with_reducible (first | exact blA | exact blB | refine blC _ ?_ | refine blD ?_ ?_ _ | refine blE ?_ | refine blF _ ?_ | refine blG ?_ _ | refine blH ?_ | refine blI ?_ ?_ _) | (simp only [World.size_alloc]; omega) | (simp <;> omega))) (ras_is _ (scaleL p os) p _ HU4.out HF.out HE.out HRR.out)).mono ?_); rintro e w' ⟨z5, ⟨S5, rfl, hS5⟩, hz5, rfl⟩; skip)
            obtain ⟨W5, hW5⟩ : ∃ W5, z5.1 = W5 := ⟨_, rfl⟩
            have hb5 := HB4.out.trans (z5.2.mono HB4.out.size)
            rw [hW5] at hS5 hb5 ⊢
            have hr5 := rdreg_rows hS5
            obtain ⟨A5, c5, hSe, _⟩ := rows_open hr5
            obtain ⟨n5, hn5⟩ : ∃ n5, rows.length = n5 := ⟨_, rfl⟩
            rw [hn5] at hSe
            subst hSe
            have HR5 := Lib.hid hr5
            have HB5 := Lib.hid (HB3.out.trans (hb5.mono HB3.out.size))
            have HD5 := Lib.hid (RdN.below HD3.out hb5)
            have B5 := HBL3.out.below hb5
            have r_0 : W5.cell? ⟨W.heap.size, 0, none⟩ = some s := B5.cell 0
            have r_l := B5.lt
            have HBL5 := Lib.hid B5
            clear hW5 hz5 hb5 hS5 hr5 B5 hn5
            go_wp2_with fail
            obtain ⟨W6, hW6⟩ : ∃ W6, W5.alloc (.cells #[.slice A5 n5 c5] 24) = W6 := ⟨_, rfl⟩
            have hb6 : Below W5.heap.size W5 W6 := hW6 ▸ (Below.refl _ _).alloc (Nat.le_refl _) _
            rw [hW6]
            have hrd6 : RdReg W6 (.agg #[.slice A5 n5 c5]) rows := ⟨_, rfl, RdN.below HR5.out hb6⟩
            have hrd6' : RdReg W6 (.agg #[s]) rows := ⟨_, rfl, RdN.below HD5.out hb6⟩
            have HD6 := Lib.hid hrd6
            have HD6' := Lib.hid hrd6'
            have HB6 := Lib.hid (HB5.out.trans (hb6.mono HB5.out.size))
            clear hW6 hb6 hrd6 hrd6'
            (go_at_call 11; (with_reducible refine (Kin.callK (W := W6) (by repeat (first | with_reducible (first | exact blA | exact blB | refine blC _ ?_ | refine blD ?_ ?_ _ | refine blE ?_ | refine blF _ ?_ | refine blG ?_ _ | refine blH ?_ | refine blI ?_ ?_ _) | (simp only [World.size_alloc]; omega) | (simp <;> omega))) (same18_yes _ _ rows _ HD6.out HD6'.out HBD.out)).mono ?_); rintro e w' ⟨z7, rfl, hz7, rfl⟩; skip)
            go_wp2_with fail
            (go_at_call 7; (with_reducible refine (Kin.callK (W := W6) (by repeat (first | with_reducible (first | exact blA | exact blB | refine blC _ ?_ | refine blD ?_ ?_ _ | refine blE ?_ | refine blF _ ?_ | refine blG ?_ _ | refine blH ?_ | refine blI ?_ ?_ _) | (simp only [World.size_alloc]; omega) | (simp <;> omega))) (traced_any _)).mono ?_); rintro e w' ⟨z9, rfl, hz9, rfl⟩; skip)
            go_wp2_with fail
            go_ret
            exact ⟨rfl, HB6.out.trans (z9.2.mono HB6.out.size)⟩
          · have h2d : p % 2 = 1 := by rw [Int.tmod_eq_emod_of_nonneg (by omega)] at h2; omega
            go_enter Tryz.func3, Tryz.ntmps3
            go_wp2_with fail
            obtain ⟨W1, hW1⟩ : ∃ W1, W.alloc (.cells #[s] 24) = W1 := ⟨_, rfl⟩
            have hb1 : Below W.heap.size W W1 := hW1 ▸ (Below.refl _ _).alloc (Nat.le_refl _) _
            have hd1 : RdReg W1 (.agg #[s]) rows := ⟨_, rfl, RdN.below HR.out hb1⟩
            have B1 : Blk W1 W.heap.size 24 #[s] := hW1 ▸ Blk.new _ _ _
            have s_0 : W1.cell? ⟨W.heap.size, 0, none⟩ = some s := B1.cell 0
            have s_l := B1.lt
            have HD1 := Lib.hid hd1
            have HB1 := Lib.hid hb1
            have HBL := Lib.hid B1
            rw [hW1]
            clear hW1 hd1 hb1 B1
            (go_at_call 5; (with_reducible refine (Kin.callK (W := W1) (by repeat (first | with_reducible (first | exact blA | exact blB | refine blC _ ?_ | refine blD ?_ ?_ _ | refine blE ?_ | refine blF _ ?_ | refine blG ?_ _ | refine blH ?_ | refine blI ?_ ?_ _) | (simp only [World.size_alloc]; omega) | (simp <;> omega))) (valid18_is _ rows _ HD1.out HBD.out HVT.out)).mono ?_); rintro e w' ⟨z1, rfl, hz1, rfl⟩; skip)
            go_wp2_with fail
            (go_at_call 6; (with_reducible refine (Kin.callK (W := W1) (by repeat (first | with_reducible (first | exact blA | exact blB | refine blC _ ?_ | refine blD ?_ ?_ _ | refine blE ?_ | refine blF _ ?_ | refine blG ?_ _ | refine blH ?_ | refine blI ?_ ?_ _) | (simp only [World.size_alloc]; omega) | (simp <;> omega))) (nearby_is _ rows _ (HD1.out.below (by repeat (first | with_reducible (first | exact blA | exact blB | refine blC _ ?_ | refine blD ?_ ?_ _ | refine blE ?_ | refine blF _ ?_ | refine blG ?_ _ | refine blH ?_ | refine blI ?_ ?_ _) | (simp only [World.size_alloc]; omega) | (simp <;> omega)))) HBD.out HVT.out HNB.out)).mono ?_); rintro e w' ⟨z2, rfl, hz2, rfl⟩; skip)
            go_wp2_with fail
            (go_at_call 7; (with_reducible refine (Kin.callK (W := W1) (by repeat (first | with_reducible (first | exact blA | exact blB | refine blC _ ?_ | refine blD ?_ ?_ _ | refine blE ?_ | refine blF _ ?_ | refine blG ?_ _ | refine blH ?_ | refine blI ?_ ?_ _) | (simp only [World.size_alloc]; omega) | (simp <;> omega))) (traced_any _)).mono ?_); rintro e w' ⟨z9, rfl, hz9, rfl⟩; skip)
            go_wp2_with fail
            go_ret
            exact ⟨rfl, HB1.out.trans (z9.2.mono HB1.out.size)⟩
    · have HNB := Lib.hid (show nearR rows = false by simpa using hn)
      clear hn
      go_enter Tryz.func3, Tryz.ntmps3
      go_wp2_with fail
      obtain ⟨W1, hW1⟩ : ∃ W1, W.alloc (.cells #[s] 24) = W1 := ⟨_, rfl⟩
      have hb1 : Below W.heap.size W W1 := hW1 ▸ (Below.refl _ _).alloc (Nat.le_refl _) _
      have hd1 : RdReg W1 (.agg #[s]) rows := ⟨_, rfl, RdN.below HR.out hb1⟩
      have B1 : Blk W1 W.heap.size 24 #[s] := hW1 ▸ Blk.new _ _ _
      have s_0 : W1.cell? ⟨W.heap.size, 0, none⟩ = some s := B1.cell 0
      have s_l := B1.lt
      have HD1 := Lib.hid hd1
      have HB1 := Lib.hid hb1
      have HBL := Lib.hid B1
      rw [hW1]
      clear hW1 hd1 hb1 B1
      (go_at_call 5; (with_reducible refine (Kin.callK (W := W1) (by repeat (first | with_reducible (first | exact blA | exact blB | refine blC _ ?_ | refine blD ?_ ?_ _ | refine blE ?_ | refine blF _ ?_ | refine blG ?_ _ | refine blH ?_ | refine blI ?_ ?_ _) | (simp only [World.size_alloc]; omega) | (simp <;> omega))) (valid18_is _ rows _ HD1.out HBD.out HVT.out)).mono ?_); rintro e w' ⟨z1, rfl, hz1, rfl⟩; skip)
      go_wp2_with fail
      (go_at_call 6; (with_reducible refine (Kin.callK (W := W1) (by repeat (first | with_reducible (first | exact blA | exact blB | refine blC _ ?_ | refine blD ?_ ?_ _ | refine blE ?_ | refine blF _ ?_ | refine blG ?_ _ | refine blH ?_ | refine blI ?_ ?_ _) | (simp only [World.size_alloc]; omega) | (simp <;> omega))) (nearby_is _ rows _ (HD1.out.below (by repeat (first | with_reducible (first | exact blA | exact blB | refine blC _ ?_ | refine blD ?_ ?_ _ | refine blE ?_ | refine blF _ ?_ | refine blG ?_ _ | refine blH ?_ | refine blI ?_ ?_ _) | (simp only [World.size_alloc]; omega) | (simp <;> omega)))) HBD.out HVT.out HNB.out)).mono ?_); rintro e w' ⟨z2, rfl, hz2, rfl⟩; skip)
      go_wp2_with fail
      (go_at_call 7; (with_reducible refine (Kin.callK (W := W1) (by repeat (first | with_reducible (first | exact blA | exact blB | refine blC _ ?_ | refine blD ?_ ?_ _ | refine blE ?_ | refine blF _ ?_ | refine blG ?_ _ | refine blH ?_ | refine blI ?_ ?_ _) | (simp only [World.size_alloc]; omega) | (simp <;> omega))) (traced_any _)).mono ?_); rintro e w' ⟨z9, rfl, hz9, rfl⟩; skip)
      go_wp2_with fail
      go_ret
      exact ⟨rfl, HB1.out.trans (z9.2.mono HB1.out.size)⟩
  · have hv0 : rvalid rows = false := by simpa using hv
    have HV0 := Lib.hid hv0
    clear hv hv0 hrs hbd
    go_enter Tryz.func3, Tryz.ntmps3
    go_wp2_with fail
    obtain ⟨W1, hW1⟩ : ∃ W1, W.alloc (.cells #[s] 24) = W1 := ⟨_, rfl⟩
    have hb1 : Below W.heap.size W W1 := hW1 ▸ (Below.refl _ _).alloc (Nat.le_refl _) _
    have hd1 : RdReg W1 (.agg #[s]) rows := ⟨_, rfl, RdN.below HR.out hb1⟩
    rw [hW1]
    clear hW1
    (go_at_call 5; (with_reducible refine (Kin.callK (W := W1) (by repeat (first | with_reducible (first | exact blA | exact blB | refine blC _ ?_ | refine blD ?_ ?_ _ | refine blE ?_ | refine blF _ ?_ | refine blG ?_ _ | refine blH ?_ | refine blI ?_ ?_ _) | (simp only [World.size_alloc]; omega) | (simp <;> omega))) (valid18_is _ rows _ hd1 HBD.out HV0.out)).mono ?_); rintro e w' ⟨z1, rfl, hz1, rfl⟩; skip)
    go_wp2_with fail
    (go_at_call 7; (with_reducible refine (Kin.callK (W := W1) (by repeat (first | with_reducible (first | exact blA | exact blB | refine blC _ ?_ | refine blD ?_ ?_ _ | refine blE ?_ | refine blF _ ?_ | refine blG ?_ _ | refine blH ?_ | refine blI ?_ ?_ _) | (simp only [World.size_alloc]; omega) | (simp <;> omega))) (traced_any _)).mono ?_); rintro e w' ⟨z2, rfl, hz2, rfl⟩; skip)
    go_wp2_with fail
    go_ret
    exact ⟨rfl, hb1.trans (z2.2.mono hb1.size)⟩
set_option maxRecDepth 100000 in
theorem topTraces_lifted (os : Os) (started : os.Started) (H : Type) (enc : TypeId × Value → H) :
    ReturnsInHanded {} Tryz.checked os 3 .any (Rows.topTracesSpec.pre6 enc Tryz.prog Tryz.f3 Rows.topTracesRow.domain false) (Rows.topTracesSpec.post enc Tryz.prog Tryz.f3 false true false false) := by
  refine returnsInHanded_of_change (C := Tryz.checked) own started (by kernel_rfl) Tryz.func3
    (ChangeSpec.witness6 (enc := enc) (C := Tryz.checked) false ⟨#[], #[.agg #[.slice none 0 0], .int .i64 0], []⟩ 8 (by kernel_rfl) (by kernel_rfl) (by kernel_rfl) (by kernel_rfl)) ?_
  intro W base args ds gs before hval0 hW hcnd _
  have hval : ∀ (j : Nat) t v, Tryz.f3.params[j]? = some t → args[j]? = some v → Value.okWide Tryz.prog W .any base t v := hval0
  have hW' := hW
  obtain ⟨p, q, hA0, hV, rfl, hfz, hnd⟩ := hW
  have hA : DataW.TrodAll enc Tryz.prog W 0 (fun _ => true) true Tryz.f3.params.toList args.toList ds p := hA0
  rw [Tryz.params3] at hA hval
  have hAA := hA
  obtain ⟨v0, vs0, d0, ds0, p0, q0, hargs, rfl, rfl, h0, r0⟩ := trodAll_cons hA
  obtain ⟨v1, vs1, d1, ds1, p1, q1, rfl, rfl, rfl, h1, r1⟩ := trodAll_cons r0
  obtain ⟨rfl, rfl, rfl⟩ := trodAll_nil r1
  obtain rfl : args = #[v0, v1] := by cases args; simp_all
  obtain ⟨rfl, rfl⟩ := trodVars_none hV
  have o0 := open_regB (hval 0 24 v0 rfl rfl) h0
  have o1 := open_i64 (hval 1 3 v1 rfl rfl) h1
  have hlt : ∀ x ∈ p0 ++ (p1 ++ []), x.block < W.heap.size := fun x hx => hW'.lt x (by simpa using hx)
  refine (topTraces_walk W _ o0 _ o1).mono fun e W' ⟨he, bel⟩ => ?_
  subst he
  exact ⟨_, rfl, _, _, _, [], _, [], hW', trodAll_mk1 (shut_bool Tryz.underlying4 _), below_trodAll laidOut bel _ _ _ _ (by
    intro t ht
    have hcl : ([24, 3] : List TypeId).all (fun t => Tryz.prog.readableRec t && decide (t < Tryz.prog.types.size)) = true := by kernel_rfl
    have := List.all_eq_true.1 hcl t ht
    simpa using this) hlt hAA, rfl, bel.frame _, fun h => by cases h⟩
theorem topTraces_heard : (Tryz.checked.prog.stopsHeard = true ∧ Tryz.checked.prog.mayEnter = true) ∧ Tryz.checked.prog.liftsFinal = Rows.topTracesRow.lifted := ⟨⟨by kernel_rfl, by kernel_rfl⟩, by kernel_rfl⟩
theorem topTraces_calls : (Tryz.checked.prog.inPlace 3 = Rows.topTracesRow.inPlace ∧ Tryz.checked.prog.unfollowed 3 = Rows.topTracesRow.unfollowed) ∧ (Tryz.checked.prog.recurses 3 = Rows.topTracesRow.recurses ∧ Tryz.checked.prog.varsNamed 3 = Rows.topTracesRow.named) := ⟨⟨by kernel_rfl, by kernel_rfl⟩, ⟨by kernel_rfl, by kernel_rfl⟩⟩
theorem topTraces_closed : joinedFacts Tryz.checked.prog 3 Tryz.f3 Rows.topTracesSpec Rows.topTracesRow = true := by
  unfold joinedFacts
  rw [topTraces_calls.1.1, topTraces_calls.1.2, topTraces_calls.2.1, topTraces_calls.2.2, topTraces_heard.1.1, topTraces_heard.1.2, topTraces_heard.2]
  kernel_rfl
/-- TopTraces: for every input the call returns true, and the arguments read behind it as before. No condition. -/
theorem topTraces_holds : Rows.TopTracesSaid :=
  OpenClaim.holds_of_wide 3 Tryz.f3 rfl rfl rfl rfl rfl rfl rfl ⟨rfl, rfl, rfl, rfl, rfl⟩ rfl rfl rfl rfl rfl (by kernel_rfl) Tryz.func3 topTraces_closed
    (of_decide_eq_true (by kernel_rfl)) (by unfold Func.isWrapper; rw [if_neg (of_decide_eq_false (by kernel_rfl))]; exact ⟨rfl, rfl⟩)
    (fun os started H enc _ => topTraces_lifted os started H enc)

end Go.Proofs.YtneelidbgigehaaGreat

/- What ErodeCross returns. -/
import Derived.Test.YtjppaknajdbkgaaMorphCrs
namespace Go.Proofs.Ytjppaknajdbkgaa
set_option linter.unusedSimpArgs false
set_option linter.unusedVariables false
open Go.RowKit Runs Reg
attribute [local go_sem] Kin.cell Kin.frozen Kin.lt0 Kin.lt1 Kin.lt2 Kin.lt3 run_mkf run_mkmap run_storeF
theorem ecr_no {r : List Reg.Row} {k : Int} (h : (reachOk k && rvalid r) = false) : ecrR r k = [] := by unfold ecrR; rw [h]; rfl
theorem shrinkL_len (l : List Run) (k : Int) : (shrinkL l k).length ≤ l.length := by
  unfold shrinkL shr
  split
  · rw [List.length_map]; exact List.length_filter_le _ _
  · exact Nat.zero_le _
theorem diaI_in {rows : List Reg.Row} (h : VReg rows) {k : Int} (h0 : 0 ≤ k) (h1 : k ≤ 64) (y : Int) (m : Nat) : SepIn (diaTo 1 shrinkL (rwAt rows) y k m) := by
  refine sepIn_of_mem (valid_iff.1 (dia_valid (fun _ _ => shrink_valid) y k m)).1 fun x hx => ?_
  have h3 := (diaI_mem (fun _ _ => shrink_valid) y k x m).1 hx y (by omega) (by omega)
  rw [show k - max (y - y) (y - y) = k by omega] at h3
  exact sepIn_mem (rwAt_in h y) ((mem_shrink (rwAt_valid h y) h0 (by omega) x).1 h3 x (by omega) (by omega))
theorem diaI_in1 {rows : List Reg.Row} (h : VReg rows) {k : Int} (h0 : 0 ≤ k) (h1 : k ≤ 64) (y : Int) (m : Nat) : SepIn (setop (opf 1) (diaTo 1 shrinkL (rwAt rows) y k m) (shrinkL (rwAt rows (y - ((m : Int) + 1))) (k - ((m : Int) + 1)))) := by
  have hs := setop_spec 1 (dia_valid (n := 1) (g := rwAt rows) (c := shrinkL) (fun _ _ => shrink_valid) y k m) (shrink_valid (b := rwAt rows (y - ((m : Int) + 1))) (k := k - ((m : Int) + 1)))
  refine sepIn_of_mem (valid_iff.1 hs.1).1 fun x hx => ?_
  rw [hs.2 x] at hx
  have hx : (mem (diaTo 1 shrinkL (rwAt rows) y k m) x && mem (shrinkL (rwAt rows (y - ((m : Int) + 1))) (k - ((m : Int) + 1))) x) = true := hx
  rw [Bool.and_eq_true] at hx
  exact sepIn_mem (diaI_in h h0 h1 y m) hx.1
set_option maxRecDepth 100000 in
set_option maxHeartbeats 16000000 in
theorem ecr_any (v : Value) (rows : List Reg.Row) (k : Int) (w : World) (h : RdReg w v rows) (hbd : RBd rows) :
    Calls Try.prog 29 #[v, .int .i64 k] w fun e w' => (∃ A n c, e = .returned (.agg #[.slice A n c]) ∧ RdReg w' (.agg #[.slice A n c]) (ecrR rows k)) ∧ Below w.heap.size w w' := by
  have H := Lib.hid h
  have Hbd := Lib.hid hbd
  obtain ⟨A, capA, rfl⟩ := h.slice_
  clear h hbd
  cases h1 : (reachOk k && rvalid rows)
  · rw [ecr_no h1]
    go_enter Try.func29, Try.ntmps29
    go_wp2_with (go_at_call 41; (with_reducible refine (Kin.callK (W := ((w.alloc (.cells #[.slice A rows.length capA] 24)).alloc (.cells #[.slice none 0 0] 24)).alloc (.cells #[.slice none 0 0] 24)) (by repeat (first | with_reducible (first | exact blA | exact blB | refine blC _ ?_ | refine blD ?_ ?_ _ | refine blE ?_ | refine blF _ ?_ | refine blG ?_ _ | refine blH ?_ | refine blI ?_ ?_ _) | (simp only [World.size_alloc]; omega) | (simp <;> omega))) (validM_is _ rows k _ (H.out.below (by repeat (first | with_reducible (first | exact blA | exact blB | refine blC _ ?_ | refine blD ?_ ?_ _ | refine blE ?_ | refine blF _ ?_ | refine blG ?_ _ | refine blH ?_ | refine blI ?_ ?_ _) | (simp only [World.size_alloc]; omega) | (simp <;> omega)))) Hbd.out h1)).mono ?_); rintro e w' ⟨z, rfl, hz, rfl⟩; (have hB := Lib.hid z.boxes3.2.1; have hC := Lib.hid z.boxes3.2.2; have q0 : (Kin.wd z).cell? ⟨w.heap.size + 1, 0, none⟩ = some (.slice none 0 0) := hB.out.cell 0; have qf : (Kin.wd z).frozen? ⟨w.heap.size + 1, 0, none⟩ = false := hB.out.frozen 0; have ql := hB.out.lt; have q2 : (Kin.wd z).cell? ⟨w.heap.size + 2, 0, none⟩ = some (.slice none 0 0) := hC.out.cell 0; have q2l := hC.out.lt))
    ((try simp only [Exit.inBlock, Exit.then]); refine bodyPost_ret (results_cell_row rfl _ _ _ _ _ (0, 0) _ rfl (hB.out.set_ 0 _) Try.underlying24 rfl (by kernel_rfl)) rfl ?_)
    exact ⟨⟨_, _, _, rfl, RdReg.nil⟩, (by repeat (first | with_reducible (first | exact blA | exact blB | refine blC _ ?_ | refine blD ?_ ?_ _ | refine blE ?_ | refine blF _ ?_ | refine blG ?_ _ | refine blH ?_ | refine blI ?_ ?_ _) | (simp only [World.size_alloc]; omega) | (simp <;> omega)))⟩
  · have HE := Lib.hid (show ecrR rows k = rowsOn (ecrW rows k) (rows.map (·.1)) from by unfold ecrR; rw [if_pos h1])
    have h2 := h1
    rw [Bool.and_eq_true] at h2
    obtain ⟨hk, hv⟩ := h2
    obtain ⟨k0, k1⟩ := reach_iff.1 hk
    have HVR := Lib.hid (rvalid_iff.1 hv)
    have hlr := (vreg_len (rvalid_iff.1 hv)).1
    clear hk
    go_enter Try.func29, Try.ntmps29
    go_wp2_with (first
      | (go_at_call 41; (with_reducible refine (Kin.callK (W := ((w.alloc (.cells #[.slice A rows.length capA] 24)).alloc (.cells #[.slice none 0 0] 24)).alloc (.cells #[.slice none 0 0] 24)) (by repeat (first | with_reducible (first | exact blA | exact blB | refine blC _ ?_ | refine blD ?_ ?_ _ | refine blE ?_ | refine blF _ ?_ | refine blG ?_ _ | refine blH ?_ | refine blI ?_ ?_ _) | (simp only [World.size_alloc]; omega) | (simp <;> omega))) (validM_is _ rows k _ (H.out.below (by repeat (first | with_reducible (first | exact blA | exact blB | refine blC _ ?_ | refine blD ?_ ?_ _ | refine blE ?_ | refine blF _ ?_ | refine blG ?_ _ | refine blH ?_ | refine blI ?_ ?_ _) | (simp only [World.size_alloc]; omega) | (simp <;> omega)))) Hbd.out h1)).mono ?_); rintro e w' ⟨z, rfl, hz, rfl⟩; (have hA := Lib.hid z.boxes3.1; have hB := Lib.hid z.boxes3.2.1; have hC := Lib.hid z.boxes3.2.2; have ql2 := hA.out.lt; have c0 : (Kin.wd z).cell? ⟨w.heap.size, 0, none⟩ = some (.slice A rows.length capA) := z.boxes3.1.cell 0; have d1 : w.heap.size < (Kin.wd z).heap.size + 1 := Nat.lt_succ_of_lt ql2; have d2 : w.heap.size < (Kin.wd z).heap.size + 1 + 1 := Nat.lt_succ_of_lt d1))
      | (go_at_call 55; (with_reducible refine (Kin.callK (W := (Kin.wd z)) (by repeat (first | with_reducible (first | exact blA | exact blB | refine blC _ ?_ | refine blD ?_ ?_ _ | refine blE ?_ | refine blF _ ?_ | refine blG ?_ _ | refine blH ?_ | refine blI ?_ ?_ _) | (simp only [World.size_alloc]; omega) | (simp <;> omega))) (rowsmap_any _ rows _ (H.out.below (by repeat (first | with_reducible (first | exact blA | exact blB | refine blC _ ?_ | refine blD ?_ ?_ _ | refine blE ?_ | refine blF _ ?_ | refine blG ?_ _ | refine blH ?_ | refine blI ?_ ?_ _) | (simp only [World.size_alloc]; omega) | (simp <;> omega)))) HVR.out)).mono ?_); rintro e w' ⟨z3, ⟨bm, nm, f, rfl, hbm, hm3, hf3⟩, hz3, rfl⟩; (have HM := Lib.hid hm3; have HF2 := Lib.hid hf3; have cc0 : (Kin.wd z3).cell? ⟨w.heap.size, 0, none⟩ = some (.slice A rows.length capA) := (z3.cell ql2).trans c0; have cl3 := z3.lt0 ql2; have cl4 := Nat.lt_succ_of_lt cl3; clear hm3 hf3)))
    obtain ⟨y, hX⟩ : ∃ y : Kin z.1, y.1 = z3.1.alloc (.cells #[.map (some bm), .func (.func 49) #[] #[]] 55) := ⟨⟨z3.1.alloc (.cells #[.map (some bm), .func (.func 49) #[] #[]] 55), (by repeat (first | with_reducible (first | exact blA | exact blB | refine blC _ ?_ | refine blD ?_ ?_ _ | refine blE ?_ | refine blF _ ?_ | refine blG ?_ _ | refine blH ?_ | refine blI ?_ ?_ _) | (simp only [World.size_alloc]; omega) | (simp <;> omega)))⟩, rfl⟩
    rw [← hX]
    have h3y : Below z3.1.heap.size z3.1 y.1 := hX ▸ Below.alloc (Below.refl _ _) (Nat.le_refl _) _
    have HW := Lib.hid (show Blk y.1 z3.1.heap.size 55 #[.map (some bm), .func (.func 49) #[] #[]] from hX ▸ Blk.new _ _ _)
    have HM := Lib.hid (HM.out.below h3y)
    have HF2 := Lib.hid (fun y' => (HF2.out y').below h3y)
    have hCy := Lib.hid (hC.out.below y.2)
    have hAy := Lib.hid (hA.out.below y.2)
    have hBy := Lib.hid (hB.out.below y.2)
    have hwy : Below w.heap.size w y.1 := (by repeat (first | with_reducible (first | exact blA | exact blB | refine blC _ ?_ | refine blD ?_ ?_ _ | refine blE ?_ | refine blF _ ?_ | refine blG ?_ _ | refine blH ?_ | refine blI ?_ ?_ _) | (simp only [World.size_alloc]; omega) | (simp <;> omega)))
    have dw2 := y.lt0 ql2
    have hcl := hCy.out.lt
    have hcz : w.heap.size + 2 < z.1.heap.size := hC.out.lt
    have hz3l : z.1.heap.size ≤ z3.1.heap.size := z3.2.size
    have nw1 : z3.1.heap.size ≠ w.heap.size + 2 := Nat.ne_of_gt (Nat.lt_of_lt_of_le hcz hz3l)
    have nw2 : bm ≠ w.heap.size + 2 := Nat.ne_of_gt (Nat.lt_of_lt_of_le hcz hbm)
    have HW0 := Lib.hid (rows_op (by have := H.out; obtain ⟨s, e, h⟩ := this; cases e; exact h : RdRows w (.slice A rows.length capA) rows))
    clear hX h3y cc0 cl3 cl4
    go_loopw [21] (fun i wr => ∃ n : Nat, n ≤ rows.length ∧ i = .int .i64 n ∧ ∃ S, Hid (OwnRows y.1.heap.size wr S (rowsOn (ecrW rows k) ((rows.map (·.1)).take n))) ∧ Hid (Blk wr (w.heap.size + 2) 24 #[S]) ∧ Hid (y.1.grownBy wr (some (w.heap.size + 2))) ∧ Hid (Below w.heap.size w wr)) (fun i _ => rows.length - (intOf i).toNat)
    case atStart => exact ⟨0, Nat.zero_le _, rfl, _, Lib.hid OwnN.nil, hCy, Lib.hid (World.grownBy.refl _ _), Lib.hid hwy⟩
    case round =>
      obtain ⟨n, hn, rfl, S, HO, HP6, HG6, hyB⟩ := hrel
      obtain ⟨y6, rfl⟩ : ∃ y6 : Kin w, y6.1 = wr := ⟨⟨wr, hyB.out⟩, rfl⟩
      clear hyB
      have HA6 := Lib.hid (hAy.out.grown HG6.out (by simp))
      have c0' : y6.1.cell? ⟨w.heap.size, 0, none⟩ = some (.slice A rows.length capA) := HA6.out.cell 0
      have cl' := HA6.out.lt
      have hysz : y.1.heap.size ≤ y6.1.heap.size := HG6.out.size
      by_cases hlt : n < rows.length
      · obtain ⟨hs, hown, hnest, hap⟩ := HO.out
        obtain ⟨AS, nS, cS, rfl⟩ := own_slice hown
        have HOW := Lib.hid hown
        have HNE := Lib.hid hnest
        have HAP := Lib.hid hap
        have hhl := hnest.1
        have hrl := rowsOn_len (ecrW rows k) ((rows.map (·.1)).take n)
        have htl : ((rows.map (·.1)).take n).length ≤ n := by simp; omega
        obtain ⟨r, hr⟩ : ∃ el_, rows[n]? = some el_ := ⟨_, List.getElem?_eq_getElem hlt⟩
        obtain ⟨bA, offA, rfl, hbA, hcA⟩ := HW0.out n _ hr
        obtain ⟨T, capT, r_0, r_1, hcapT, hrT⟩ := hcA n r hr
        have Hr := Lib.hid hr
        have hrm := HVR.out.1 r (List.mem_of_getElem? hr)
        have hry : -4096 ≤ r.1 ∧ r.1 < 4096 := by have := hrm.1; unfold okC at this; simpa using this
        have p0 : y6.1.cell? ⟨w.heap.size + 2, 0, none⟩ = some (.slice AS nS cS) := HP6.out.cell 0
        have pl := HP6.out.lt
        have hbA2 : bA < w.heap.size + 1 := by omega
        have lch : (ecrW rows k r.1).length ≤ 8192 := sepIn_len (diaI_in HVR.out k0 k1 r.1 k.toNat)
        have hrowsz : y6.1.heap.size < y6.1.heap.size + 1 := Nat.lt_succ_self _
        clear hown hnest hap hr hcA hrT hrm
        have HW6 := Lib.hid (HW.out.grown HG6.out (fun e => nw1 (Option.some.inj e)))
        have e30' : y6.1.cell? ⟨z3.1.heap.size, 0, none⟩ = some (.map (some bm)) := HW6.out.cell 0
        have e31' : y6.1.cell? ⟨z3.1.heap.size, 1, none⟩ = some (.func (.func 49) #[] #[]) := HW6.out.cell 1
        have e3l' := HW6.out.lt
        have HM6 := Lib.hid (HM.out.kept HG6.out (fun e => nw2 (Option.some.inj e)))
        have HF6 := Lib.hid (fun y' => (HF2.out y').grown HG6.out (runs_far (HF2.out y') hCy.out))
        go_wp2_with (go_at_call 56; (with_reducible refine (Kin.callK (W := (Kin.wd y6).alloc (.cells #[.int .i64 r.1, .slice T r.2.length capT] 47)) (by repeat (first | with_reducible (first | exact blA | exact blB | refine blC _ ?_ | refine blD ?_ ?_ _ | refine blE ?_ | refine blF _ ?_ | refine blG ?_ _ | refine blH ?_ | refine blI ?_ ?_ _) | (simp only [World.size_alloc]; omega) | (simp <;> omega))) (diaI_any _ nm f (rwAt rows) r.1 k _ (HM6.out.below (by repeat (first | with_reducible (first | exact blA | exact blB | refine blC _ ?_ | refine blD ?_ ?_ _ | refine blE ?_ | refine blF _ ?_ | refine blG ?_ _ | refine blH ?_ | refine blI ?_ ?_ _) | (simp only [World.size_alloc]; omega) | (simp <;> omega)))) (fun y' => (HF6.out y').below (by repeat (first | with_reducible (first | exact blA | exact blB | refine blC _ ?_ | refine blD ?_ ?_ _ | refine blE ?_ | refine blF _ ?_ | refine blG ?_ _ | refine blH ?_ | refine blI ?_ ?_ _) | (simp only [World.size_alloc]; omega) | (simp <;> omega)))) ⟨k0, k1⟩ (by omega) (fun m => Nat.le_trans (sepIn_len (diaI_in HVR.out k0 k1 _ m)) (by decide)) (fun m => Nat.le_trans (sepIn_len (diaI_in1 HVR.out k0 k1 _ m)) (by decide)) (fun j' k' => Nat.le_trans (shrinkL_len _ _) (Nat.le_trans (sepIn_len (rwAt_in HVR.out j')) (by decide))) (fun j' => Nat.le_trans (sepIn_len (rwAt_in HVR.out j')) (by decide)))).mono ?_); rintro e w' ⟨zu, ⟨u, rfl, hl⟩, hzu, rfl⟩; (change Rd 2 encRun (Kin.wd zu) u (ecrW rows k r.1) at hl; (obtain ⟨L, capL, rfl, hcapL, _⟩ := hl.open_); have HL := Lib.hid hl; have HBZ := Lib.hid (show Below (Kin.wd y6).heap.size (Kin.wd y6) (Kin.wd zu) from (Below.alloc (Below.refl _ _) (Nat.le_refl _) _).trans (hzu.mono (le_alloc (Nat.le_refl _) _))); have HRV := Lib.hid ((Blk.new (Kin.wd y6) 47 #[.int .i64 r.1, .slice T r.2.length capT]).below hzu); have HPZ := Lib.hid (HP6.out.below HBZ.out); have g0 : (Kin.wd zu).cell? ⟨(Kin.wd y6).heap.size, 0, none⟩ = some (.int .i64 r.1) := HRV.out.cell 0; have gp : (Kin.wd zu).cell? ⟨w.heap.size + 2, 0, none⟩ = some (.slice AS nS cS) := HPZ.out.cell 0; have gl := HRV.out.lt; have gpl0 := HPZ.out.lt; clear hl))
        · generalize hGG : ecrW rows k r.1 = G at *
          have HGG := Lib.hid hGG
          clear hGG
          go_region_law (first
            | (skip; (refine step_app _ rfl _ _ 45 rfl encRun_len (by decide) oneR zu.1.heap.size 61 (.agg #[.int .i64 0, .int .i64 0]) 16 infoRun rfl Try.underlying45 (.slice (some ⟨zu.1.heap.size, 0, none⟩) 0 0) _ _ _ (by first | rfl | simp [Act.eval, Act.put]) (own_made _ encRun_len zu.1.heap.size _ [] #[] rfl (by repeat (first | with_reducible exact Nat.le_refl _ | assumption | with_reducible refine le_alloc ?_ _ | with_reducible refine le_drew ?_ | with_reducible refine Kin.le _ ?_ | assumption | omega | (simp only [World.size_alloc]; omega))) (by decide)) _ _ _ (by first | rfl | simp [Act.eval, Act.put]) (HL.out.below (by repeat (first | with_reducible (first | exact blA | exact blB | refine blC _ ?_ | refine blD ?_ ?_ _ | refine blE ?_ | refine blF _ ?_ | refine blG ?_ _ | refine blH ?_ | refine blI ?_ ?_ _) | (simp only [World.size_alloc]; omega) | (simp <;> omega)))) ?c1 (by decide) ?c2 ?_; (case c1 => (first | (simp only [List.length_append, List.length_cons, List.length_nil]; omega) | omega | (simp; omega))); (case c2 => exact (by repeat (first | with_reducible exact Nat.le_refl _ | assumption | with_reducible refine le_alloc ?_ _ | with_reducible refine le_drew ?_ | with_reducible refine Kin.le _ ?_ | assumption | omega | (simp only [World.size_alloc]; omega)))); intro v' w1 hown' hg hbel hat'; ((obtain ⟨zc, rfl⟩ : ∃ zc : Kin zu.1, zc.1 = w1 := ⟨⟨w1, Below.trans (by repeat (first | with_reducible (first | exact blA | exact blB | refine blC _ ?_ | refine blD ?_ ?_ _ | refine blE ?_ | refine blF _ ?_ | refine blG ?_ _ | refine blH ?_ | refine blI ?_ ?_ _) | (simp only [World.size_alloc]; omega) | (simp <;> omega))) hbel⟩, rfl⟩); have hrc := Rd.own encRun_len hown'; rw [List.nil_append] at hrc; (obtain ⟨AC, capC, rfl, hcapC, _⟩ := hrc.open_); have HRC := Lib.hid hrc; have HFR := Lib.hid (own_fresh hown' (v2 := .slice AS nS cS) (fun q e => Nat.lt_of_lt_of_le (HOW.out.lt q e).2 HBZ.out.size)); have HBC := Lib.hid (HBZ.out.trans (zc.2.mono HBZ.out.size)); have gr0 : zc.1.cell? ⟨y6.1.heap.size, 0, none⟩ = some (.int .i64 r.1) := (HRV.out.below zc.2).cell 0; have gp0 : zc.1.cell? ⟨w.heap.size + 2, 0, none⟩ = some (.slice AS nS cS) := (HPZ.out.below zc.2).cell 0; have grl := (HRV.out.below zc.2).lt; have gpl := (HPZ.out.below zc.2).lt; clear hrc hown' hg hbel hat')))
            | (skip; (refine step_app _ rfl _ _ 22 rfl encRow_len (by decide) oneRow y.1.heap.size 47 (.agg #[.int .i64 0, .slice none 0 0]) 32 infoRow rfl Try.underlying22 (.slice AS nS cS) _ _ _ (by first | rfl | simp [Act.eval, Act.put]) ((own_below HOW.out HBC.out).alloc _) _ _ _ (by first | rfl | simp [Act.eval, Act.put]) (rd_one _ encRow_len _ (hd r.1 AC G.length capC) _ rfl) ?c1 (by decide) ?c2 ?_; (case c1 => (first | (simp only [List.length_append, List.length_cons, List.length_nil]; omega) | omega | (simp; omega))); (case c2 => exact (by repeat (first | with_reducible exact Nat.le_refl _ | assumption | with_reducible refine le_alloc ?_ _ | with_reducible refine le_drew ?_ | with_reducible refine Kin.le _ ?_ | assumption | omega | (simp only [World.size_alloc]; omega)))); intro v' w1 hown' hg hbel hat'; ((obtain ⟨AV, nV, cV, rfl⟩ := own_slice hown'); have hPn : Blk (zc.1.alloc (.cells #[.int .i64 r.1, .slice AC G.length capC] 47)) (w.heap.size + 2) 24 #[.slice AS nS cS] := (HPZ.out.below zc.2).below (Below.alloc (Below.refl _ _) (Nat.le_refl _) _); have HP1 := Lib.hid (hPn.grown hg (Ne.symm (own_ne ((own_below HOW.out HBC.out).alloc _) hPn (by decide)))); have p1 : w1.cell? ⟨w.heap.size + 2, 0, none⟩ = some (.slice AS nS cS) := HP1.out.cell 0; have pf1 : w1.frozen? ⟨w.heap.size + 2, 0, none⟩ = false := HP1.out.frozen 0; have pl1 := HP1.out.lt; have HPU := Lib.hid (OwnRows.push ((own_below HOW.out HBC.out).alloc _) ((HNE.out.below HBC.out).below (Below.alloc (Below.refl _ _) (Nat.le_refl _) _)) HAP.out hown' hg hat' (HRC.out.below (by repeat (first | with_reducible (first | exact blA | exact blB | refine blC _ ?_ | refine blD ?_ ?_ _ | refine blE ?_ | refine blF _ ?_ | refine blG ?_ _ | refine blH ?_ | refine blI ?_ ?_ _) | (simp only [World.size_alloc]; omega) | (simp <;> omega)))) (HFR.out.imp (fun h => List.eq_nil_of_length_eq_zero (by simpa using h)) id) hPn); have HBE := Lib.hid hbel; clear hown' hg hbel hat'))))
          all_goals
            have hne : G.isEmpty = false := by
              rw [List.isEmpty_eq_false_iff]; intro e; have : G.length = 0 := (by rw [e]; rfl); omega
            have hb56 : Below y.1.heap.size y6.1 (zc.1.alloc (.cells #[.int .i64 r.1, .slice AC G.length capC] 47)) := Below.alloc (HBC.out.mono hysz) (Nat.le_trans hysz HBC.out.size) _
            have hb5 := hb56.trans HBE.out
            have hbw : Below w.heap.size w w1 := y6.2.trans (hb5.mono (Nat.le_trans hwy.size (Nat.le_refl _)))
            go_wp2
            go_roundw
            case rel => exact ⟨n + 1, by omega, by go_num, _, Lib.hid (by rw [map_take_snoc Hr.out, rowsOn_snoc, HGG.out, hne]; exact HPU.out.1), Lib.hid HPU.out.2, Lib.hid (grownBy_trans (grownBy_below2 HG6.out hb5) (grownBy_set _)), Lib.hid (Below.setCell hbw (Nat.le_trans (Nat.le_succ _) (Nat.le_succ _)) _)⟩
            case measure => simp [intOf]; omega
        · rename_i h0
          have hne : (ecrW rows k r.1).isEmpty = true := by
            rw [List.isEmpty_iff]; exact List.eq_nil_of_length_eq_zero (by omega)
          go_roundw
          case rel => exact ⟨n + 1, by omega, by go_num, _, Lib.hid (by rw [map_take_snoc Hr.out, rowsOn_snoc, hne]; simpa using HO.out.below HBZ.out), HPZ, Lib.hid (grownBy_below2 HG6.out (HBZ.out.mono hysz)), Lib.hid (y6.2.trans (HBZ.out.mono y6.2.size))⟩
          case measure => simp [intOf]; omega
      · have en : n = rows.length := by omega
        obtain ⟨hs, hown, _⟩ := HO.out
        obtain ⟨AS, nS, cS, rfl⟩ := own_slice hown
        have p0 : y6.1.cell? ⟨w.heap.size + 2, 0, none⟩ = some (.slice AS nS cS) := HP6.out.cell 0
        have pl := HP6.out.lt
        have B36 := Lib.hid (hBy.out.grown HG6.out (by simp))
        have q0 : y6.1.cell? ⟨w.heap.size + 1, 0, none⟩ = some (.slice none 0 0) := B36.out.cell 0
        have qf : y6.1.frozen? ⟨w.heap.size + 1, 0, none⟩ = false := B36.out.frozen 0
        have ql := B36.out.lt
        have HEN := Lib.hid (show (rows.map (·.1)).take n = rows.map (·.1) from by rw [en]; exact List.take_of_length_le (by simp))
        clear hown en
        go_wp2
        ((try simp only [Exit.inBlock, Exit.then]); refine bodyPost_ret (results_cell_row rfl _ _ _ _ _ (0, 0) _ rfl (B36.out.set_ 0 _) Try.underlying24 rfl (by kernel_rfl)) rfl ?_)
        refine ⟨⟨_, _, _, rfl, ?_⟩, (by repeat (first | with_reducible (first | exact blA | exact blB | refine blC _ ?_ | refine blD ?_ ?_ _ | refine blE ?_ | refine blF _ ?_ | refine blG ?_ _ | refine blH ?_ | refine blI ?_ ?_ _) | (simp only [World.size_alloc]; omega) | (simp <;> omega)))⟩
        rw [HE.out, ← HEN.out]
        exact (HO.out.set_ (i := 0) (u := .slice AS nS cS) B36.out (by decide)).reg
end Go.Proofs.Ytjppaknajdbkgaa

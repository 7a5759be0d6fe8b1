/- RasterMoves: for every input the law returns true. No condition. -/
import Derived.Test.YtbdmibbpojmkiaaRasLawW
import Derived.Test.YtbdmibbpojmkiaaRasMovM
namespace Go.Proofs.Ytbdmibbpojmkiaa
set_option linter.unusedSimpArgs false
set_option linter.unusedVariables false
set_option maxRecDepth 100000
open Go.ChangeShapes Go.WideShapes Go.ChangeAt Go.RowKit Go.Joins Runs Reg Ras
attribute [local go_sem] Kin.cell Kin.frozen Kin.lt0 Kin.lt1 Kin.lt2 Kin.lt3 run_mkf
theorem shiftReg_is {S : List Reg.Row} (v : Value) (rows : List Reg.Row) (dx dy M : Int) (w : World) (h : RdReg w v rows) (hv : rvalid rows = true) (hw : Within rows M) (hM : 0 ≤ M ∧ M ≤ 4000) (hdx : -20 ≤ dx ∧ dx ≤ 20) (hdy : -20 ≤ dy ∧ dy ≤ 20) (hS : shR rows dx dy = S) :
    Calls Try.prog 19 #[v, .int .i64 dx, .int .i64 dy] w fun e w' => (∃ A n c, e = .returned (.tuple #[.agg #[.slice A n c], .int .i64 0]) ∧ RdReg w' (.agg #[.slice A n c]) S) ∧ Below w.heap.size w w' := by subst hS; exact shiftReg_any v rows dx dy M w h hv hw hM hdx hdy
set_option maxHeartbeats 16000000 in
theorem rasMoves_bad (W : World) (v : Value) (l : List (List P2)) (h : RdPols W v l) (p dx dy : Int) (hbad : rasE (someR l) p ≠ 0 ∨ dx < -20 ∨ 20 < dx ∨ dy < -20 ∨ 20 < dy) : Calls Try.prog 7 #[v, .int .i64 p, .int .i64 dx, .int .i64 dy] W fun e W' => e = .returned (.bool true) ∧ Below W.heap.size W W' := by
  have HF := Lib.hid (someR_few l)
  obtain ⟨E, hE⟩ : ∃ E, rasE (someR l) p = E := ⟨_, rfl⟩
  obtain ⟨R, hR⟩ : ∃ R, rasO (someR l) p = R := ⟨_, rfl⟩
  rw [hE] at hbad
  have HE := Lib.hid hE
  have HR := Lib.hid hR
  have hc : (E != 0) = true ∨ ((E != 0) = false ∧ dx < -20) ∨ ((E != 0) = false ∧ ¬ dx < -20 ∧ 20 < dx) ∨ ((E != 0) = false ∧ ¬ dx < -20 ∧ ¬ 20 < dx ∧ dy < -20) ∨ ((E != 0) = false ∧ ¬ dx < -20 ∧ ¬ 20 < dx ∧ ¬ dy < -20 ∧ 20 < dy) := by
    cases he : (E != 0)
    · have : E = 0 := by simpa using he
      simp only [Bool.false_eq_true, false_or, true_and]
      omega
    · exact .inl rfl
  clear hbad hE hR
  rcases hc with c1 | ⟨c1, c2⟩ | ⟨c1, c2, c3⟩ | ⟨c1, c2, c3, c4⟩ | ⟨c1, c2, c3, c4, c5⟩
  all_goals
    go_enter Try.func7, Try.ntmps7
    go_wp2_with (first
      | (go_at_call 12; (with_reducible refine (Kin.callK (W := W) (by repeat (first | with_reducible (first | exact blA | exact blB | refine blC _ ?_ | refine blD ?_ ?_ _ | refine blE ?_ | refine blF _ ?_ | refine blG ?_ _ | refine blH ?_ | refine blI ?_ ?_ _) | (simp only [World.size_alloc]; omega) | (simp <;> omega))) (some19_any _ l _ (h.below (by repeat (first | with_reducible (first | exact blA | exact blB | refine blC _ ?_ | refine blD ?_ ?_ _ | refine blE ?_ | refine blF _ ?_ | refine blG ?_ _ | refine blH ?_ | refine blI ?_ ?_ _) | (simp only [World.size_alloc]; omega) | (simp <;> omega)))))).mono ?_); rintro e w' ⟨zA, ⟨u, rfl, hu⟩, hzA, rfl⟩; (have HU := Lib.hid hu; clear hu))
      | (go_at_call 13; (with_reducible refine (Kin.callK (W := W) (by repeat (first | with_reducible (first | exact blA | exact blB | refine blC _ ?_ | refine blD ?_ ?_ _ | refine blE ?_ | refine blF _ ?_ | refine blG ?_ _ | refine blH ?_ | refine blI ?_ ?_ _) | (simp only [World.size_alloc]; omega) | (simp <;> omega))) (raster_is _ _ p _ (HU.out.below (by repeat (first | with_reducible (first | exact blA | exact blB | refine blC _ ?_ | refine blD ?_ ?_ _ | refine blE ?_ | refine blF _ ?_ | refine blG ?_ _ | refine blH ?_ | refine blI ?_ ?_ _) | (simp only [World.size_alloc]; omega) | (simp <;> omega)))) HF.out HE.out HR.out)).mono ?_); rintro e w' ⟨zB, ⟨A, n, c, rfl, hr⟩, hzB, rfl⟩; skip)
      | (go_at_call 11; (with_reducible refine (Kin.callK (W := W) (by repeat (first | with_reducible (first | exact blA | exact blB | refine blC _ ?_ | refine blD ?_ ?_ _ | refine blE ?_ | refine blF _ ?_ | refine blG ?_ _ | refine blH ?_ | refine blI ?_ ?_ _) | (simp only [World.size_alloc]; omega) | (simp <;> omega))) (awake19_any _)).mono ?_); rintro e w' ⟨zE, rfl, hzE, rfl⟩; skip))
    go_ret
    exact ⟨rfl, (by repeat (first | with_reducible (first | exact blA | exact blB | refine blC _ ?_ | refine blD ?_ ?_ _ | refine blE ?_ | refine blF _ ?_ | refine blG ?_ _ | refine blH ?_ | refine blI ?_ ?_ _) | (simp only [World.size_alloc]; omega) | (simp <;> omega)))⟩
set_option maxHeartbeats 32000000 in
theorem rasMoves_good (W : World) (v : Value) (l0 : List (List P2)) (h : RdPols W v l0) (p dx dy : Int) (hE : rasE (someR l0) p = 0) (hdx : -20 ≤ dx ∧ dx ≤ 20) (hdy : -20 ≤ dy ∧ dy ≤ 20) : Calls Try.prog 7 #[v, .int .i64 p, .int .i64 dx, .int .i64 dy] W fun e W' => e = .returned (.bool true) ∧ Below W.heap.size W W' := by
  have HSO := Lib.hid h
  have hfew := someR_few l0
  obtain ⟨hpi, hok⟩ := rasE_zero.1 hE
  have hp := okPitch_iff.1 hpi
  have hpts := someR_pts hok
  have hsm := someR_small l0
  have hnear := near63 hp.1 hpts
  have hwi := rasR_within (by omega : (2 : Int) ≤ p) hnear (by omega)
  have hmv := ras_mv (dx := dx) (dy := dy) (by omega : (2 : Int) ≤ p) hnear (by omega) hdx hdy
  have hab := mul_bd (x := dx) (y := p) (M := 20) (N := 1024) (by omega) (by omega)
  have hbb := mul_bd (x := dy) (y := p) (M := 20) (N := 1024) (by omega) (by omega)
  have hmo := mv_okPs (a := dx * p) (b := dy * p) hpts (by omega) (by omega)
  have hmf := mv_few (a := dx * p) (b := dy * p) hfew
  have hR0 : rasO (someR l0) p = rasR (someR l0) p := by unfold rasO; rw [if_pos hE]
  obtain ⟨a, ha⟩ : ∃ a, dx * p = a := ⟨_, rfl⟩
  obtain ⟨b, hb⟩ : ∃ b, dy * p = b := ⟨_, rfl⟩
  rw [ha] at hab hmv hmo hmf
  rw [hb] at hbb hmv hmo hmf
  have hwa : IntKind.i64.wrap (dx * p) = a := by rw [ha]; exact IntWalk.i64_in _ (by omega)
  have hwb : IntKind.i64.wrap (dy * p) = b := by rw [hb]; exact IntWalk.i64_in _ (by omega)
  obtain ⟨l, hl⟩ : ∃ l, someR l0 = l := ⟨_, rfl⟩
  have HSL := Lib.hid hl
  rw [hl] at hE hfew hok hpts hsm hwi hmv hmo hmf hR0
  rw [← mvL_all] at hmv hmo hmf
  have hE2 : rasE (mvL a b l l.length) p = 0 := rasE_zero.2 ⟨hpi, hmo⟩
  obtain ⟨R, hR⟩ : ∃ R, rasR l p = R := ⟨_, rfl⟩
  rw [hR] at hwi hmv hR0
  have HE := Lib.hid hE
  have HE2 := Lib.hid hE2
  have HF := Lib.hid hfew
  have HF2 := Lib.hid hmf
  have HRO := Lib.hid hR0
  have HRO2 := Lib.hid (show rasO (mvL a b l l.length) p = shR R dx dy by unfold rasO; rw [if_pos hE2]; exact hmv)
  have HWI := Lib.hid hwi
  have HV := Lib.hid (show rvalid R = true by rw [← hR]; exact rvalid_iff.2 (rasR_spec l p).1)
  have HV2 := Lib.hid (show rvalid (shR R dx dy) = true by rw [← HRO2.out]; exact rasO_valid _ _)
  have HPT := Lib.hid hpts
  have HSM := Lib.hid hsm.2
  have hl5 := hsm.1
  obtain ⟨R2, hR2⟩ : ∃ R2, shR R dx dy = R2 := ⟨_, rfl⟩
  rw [hR2] at HRO2 HV2
  have HSH := Lib.hid hR2
  have k1 : ¬ dx < -20 := by omega
  have k2 : ¬ 20 < dx := by omega
  have k3 : ¬ dy < -20 := by omega
  have k4 : ¬ 20 < dy := by omega
  clear h hpi hok hp hpts hsm hnear hwi hmv hmo hmf hR0 ha hb hl hE hE2 hR hR2 hfew
  go_enter Try.func7, Try.ntmps7
  go_wp2_with (first
    | (go_at_call 12; (with_reducible refine (Kin.callK (W := W) (by repeat (first | with_reducible (first | exact blA | exact blB | refine blC _ ?_ | refine blD ?_ ?_ _ | refine blE ?_ | refine blF _ ?_ | refine blG ?_ _ | refine blH ?_ | refine blI ?_ ?_ _) | (simp only [World.size_alloc]; omega) | (simp <;> omega))) (some19_any _ l0 _ (HSO.out.below (by repeat (first | with_reducible (first | exact blA | exact blB | refine blC _ ?_ | refine blD ?_ ?_ _ | refine blE ?_ | refine blF _ ?_ | refine blG ?_ _ | refine blH ?_ | refine blI ?_ ?_ _) | (simp only [World.size_alloc]; omega) | (simp <;> omega)))))).mono ?_); rintro e w' ⟨zA, ⟨u, rfl, hu⟩, hzA, rfl⟩; (rw [HSL.out] at hu; (obtain ⟨A, capA, rfl, hcapA, hopA⟩ := pols_open hu); have HU := Lib.hid hu; have HA := Lib.hid hopA; clear hu hopA))
    | (go_at_call 13; (with_reducible refine (Kin.callK (W := (Kin.wd zA)) (by repeat (first | with_reducible (first | exact blA | exact blB | refine blC _ ?_ | refine blD ?_ ?_ _ | refine blE ?_ | refine blF _ ?_ | refine blG ?_ _ | refine blH ?_ | refine blI ?_ ?_ _) | (simp only [World.size_alloc]; omega) | (simp <;> omega))) (raster_is _ _ p _ (HU.out.below (by repeat (first | with_reducible (first | exact blA | exact blB | refine blC _ ?_ | refine blD ?_ ?_ _ | refine blE ?_ | refine blF _ ?_ | refine blG ?_ _ | refine blH ?_ | refine blI ?_ ?_ _) | (simp only [World.size_alloc]; omega) | (simp <;> omega)))) HF.out HE.out HRO.out)).mono ?_); rintro e w' ⟨zB, ⟨AR, nR, cR, rfl, hr⟩, hzB, rfl⟩; (have HRR := Lib.hid hr; clear hr)))
  obtain ⟨y1, hX⟩ : ∃ y1 : Kin zA.1, y1.1 = zB.1.alloc (.cells #[.slice AR nR cR] 32) := ⟨⟨zB.1.alloc (.cells #[.slice AR nR cR] 32), (by repeat (first | with_reducible (first | exact blA | exact blB | refine blC _ ?_ | refine blD ?_ ?_ _ | refine blE ?_ | refine blF _ ?_ | refine blG ?_ _ | refine blH ?_ | refine blI ?_ ?_ _) | (simp only [World.size_alloc]; omega) | (simp <;> omega)))⟩, rfl⟩
  rw [← hX]
  have PR := Lib.hid (show Blk y1.1 zB.1.heap.size 32 #[.slice AR nR cR] from hX ▸ Blk.new _ _ _)
  have HR1 := Lib.hid (show RdReg y1.1 (.agg #[.slice AR nR cR]) R from hX ▸ HRR.out.below (Below.alloc (Below.refl _ _) (Nat.le_refl _) _))
  have HY1 := Lib.hid (show Below W.heap.size W y1.1 from (by repeat (first | with_reducible (first | exact blA | exact blB | refine blC _ ?_ | refine blD ?_ ?_ _ | refine blE ?_ | refine blF _ ?_ | refine blG ?_ _ | refine blH ?_ | refine blI ?_ ?_ _) | (simp only [World.size_alloc]; omega) | (simp <;> omega))))
  generalize zB.1.heap.size = gR at PR ⊢
  clear hX HRR
  go_loopw [11, 12] (fun u i wr => ∃ k : Nat, k ≤ l.length ∧ i = .int .i64 k ∧ Hid (OwnPols y1.1.heap.size wr u (mvL a b l k)) ∧ ∃ z : Kin y1.1, z.1 = wr) (fun _ i _ => l.length - (intOf i).toNat)
  case atStart => exact ⟨0, Nat.zero_le _, rfl, OwnN.nil, ⟨y1.1, Below.refl _ _⟩, rfl⟩
  case round =>
    obtain ⟨k, hk, rfl, HO, z, rfl⟩ := hrel
    by_cases hlt : k < l.length
    · obtain ⟨o, ho⟩ : ∃ el_, l[k]? = some el_ := ⟨_, List.getElem?_eq_getElem hlt⟩
      obtain ⟨bA, offA, rfl, hbA, hcA⟩ := HA.out k _ ho
      obtain ⟨S, capS, o_0, hcapS, hrS⟩ := hcA k o ho
      have HLS := Lib.hid hrS
      have HPO := Lib.hid (HPT.out o (List.mem_of_getElem? ho))
      have hol := HSM.out o (List.mem_of_getElem? ho)
      have HSS := Lib.hid (mvL_succ (a := a) (b := b) ho)
      have hstl := mvL_len a b l k
      clear ho hcA hrS
      obtain ⟨hs, hown, hnest, hap⟩ := HO.out
      have HOW := Lib.hid hown
      have HNE := Lib.hid hnest
      have HAP := Lib.hid hap
      have hhl := hnest.1
      clear hown hnest hap HO
      have HKZ := Lib.hid (show Below zA.1.heap.size zA.1 z.1 from (by repeat (first | with_reducible (first | exact blA | exact blB | refine blC _ ?_ | refine blD ?_ ?_ _ | refine blE ?_ | refine blF _ ?_ | refine blG ?_ _ | refine blH ?_ | refine blI ?_ ?_ _) | (simp only [World.size_alloc]; omega) | (simp <;> omega))))
      have o_0 : z.1.cell? ⟨bA, offA + k, none⟩ = some (.slice S o.length capS) := (HKZ.out.cell (p := ⟨bA, offA + k, none⟩) hbA).trans o_0
      have hbAz : bA < z.1.heap.size := Nat.lt_of_lt_of_le hbA HKZ.out.size
      have HLZ := Lib.hid (HLS.out.below HKZ.out)
      clear HLS
      have HS := Lib.hid (Rd.op HLZ.out)
      have HLS := Lib.hid HLZ.out
      go_wp2
      go_loopw [14] (fun i wr => ∃ m : Nat, m ≤ o.length ∧ i = .int .i64 m ∧ ∃ (B : Option Addr) (n c : Nat), Hid (Blk wr z.1.heap.size 40 #[.slice B n c]) ∧ Hid (wr.ownsRow (z.1.heap.size + 1) 24 2 (.slice B n c) (mvTo a b o m).length ((mvTo a b o m).flatMap encPt)) ∧ ∃ z2 : Kin z.1, z2.1 = wr) (fun i _ => o.length - (intOf i).toNat)
      case atStart => exact ⟨0, Nat.zero_le _, rfl, none, 0, 0, Lib.hid (Blk.new _ _ _), Lib.hid (World.ownsRow_nil _ _ _ _), ⟨World.alloc _ _, (by repeat (first | with_reducible (first | exact blA | exact blB | refine blC _ ?_ | refine blD ?_ ?_ _ | refine blE ?_ | refine blF _ ?_ | refine blG ?_ _ | refine blH ?_ | refine blI ?_ ?_ _) | (simp only [World.size_alloc]; omega) | (simp <;> omega)))⟩, rfl⟩
      case round =>
        obtain ⟨m, hm, rfl, B, n, c, HP, HQ, z2, rfl⟩ := hrel
        by_cases hlt2 : m < o.length
        · obtain ⟨q, hq⟩ : ∃ el_, (o)[m]? = some el_ := ⟨_, List.getElem?_eq_getElem (by first | exact hlt2 | omega)⟩
          obtain ⟨bS, offS, rfl, hbS, hcS⟩ := HS.out (m) _ hq
          have q_0 : z.1.cell? ⟨bS, offS + m * 2, none⟩ = some (.int .i64 q.1) := by exact hcS (m) _ hq 0 _ rfl
          have q_1 : z.1.cell? ⟨bS, offS + m * 2 + 1, none⟩ = some (.int .i64 q.2) := by exact hcS (m) _ hq 1 _ rfl
          have hbS2 : bS < z.1.heap.size + 1 := by omega
          have HSc := Lib.hid hcS
          have Hq := Lib.hid hq
          clear hq hcS
          have hqb := HPO.out q (List.mem_of_getElem? Hq.out)
          have HCS := Lib.hid (mvTo_succ (a := a) (b := b) Hq.out)
          have hcl := mvTo_len a b o m
          have g0 : z2.1.cell? ⟨z.1.heap.size, 0, none⟩ = some (.slice B n c) := HP.out.cell 0
          have gl := HP.out.lt
          have g1 : z2.1.cell? ⟨bA, offA + k, none⟩ = some (.slice (some ⟨bS, offS, none⟩) o.length capS) := (z2.cell hbAz).trans o_0
          have gl1 : bA < z2.1.heap.size := z2.lt0 hbAz
          have g2 : z2.1.cell? ⟨bS, offS + m * 2, none⟩ = some (.int .i64 q.1) := (z2.cell hbS).trans q_0
          have g3 : z2.1.cell? ⟨bS, offS + m * 2 + 1, none⟩ = some (.int .i64 q.2) := (z2.cell hbS).trans q_1
          have gl2 : bS < z2.1.heap.size := z2.lt0 hbS
          have hn := own_len encPt_len (by decide) HQ.out
          have hw1 : IntKind.i64.wrap (q.1 + a) = q.1 + a := IntWalk.i64_in _ (by omega)
          have hw2 : IntKind.i64.wrap (q.2 + b) = q.2 + b := IntWalk.i64_in _ (by omega)
          go_wp2
          refine wp_region_floatT 2 29 (fun w' => w'.cell? ⟨z.1.heap.size, 0, none⟩ = some (.slice B n c)) (by kernel_rfl) (by kernel_rfl) (by kernel_rfl) (fun y => (y.cell gl).trans g0) ?_
          simp only [List.take_succ_cons, List.take_zero, List.drop_succ_cons, List.drop_zero]
          refine @takeS_cons _ _ _ _ _ _ _ ?_ rfl (fun w' hSw => ?_) ?_
          rotate_left
          · ((try dsimp only at hSw); go_simp; try with_reducible rfl)
          try simp only [Act.put, List.setIfInBounds_toArray, List.set_cons_zero, List.set_cons_succ]
          refine @takeS_cons _ _ _ _ _ _ _ ?_ rfl (fun w' hSw => ?_) ?_
          rotate_left
          · ((try dsimp only at hSw); go_simp; try with_reducible rfl)
          try simp only [Act.put, List.setIfInBounds_toArray, List.set_cons_zero, List.set_cons_succ]
          refine takeS_nil ?_
          ((repeat' (first | go_big_quiet_step (fail) | ((refine wpQuiet_guard rfl rfl rfl rfl (fun hg => ?_) (fun hg => ?_)) <;> (fail_if_success (first | guard_hyp hg : true = true | guard_hyp hg : false = false)) <;> (try simp only [decide_eq_true_eq, decide_eq_false_iff_not] at hg) <;> simp only [Act.put, List.setIfInBounds_toArray, List.set_cons_zero, List.set_cons_succ]))); all_goals ((with_reducible refine wpQuiet_nil ?_); intro zq))
          have HSR := Lib.hid (rd_one zq.1 encPt_len 24 (q.1 + a, q.2 + b) _ rfl rfl)
          have HZB := Lib.hid (show Below z.1.heap.size z.1 (zq.1.alloc (.cells #[.int .i64 (q.1 + a), .int .i64 (q.2 + b)] 24)) from (by repeat (first | with_reducible (first | exact blA | exact blB | refine blC _ ?_ | refine blD ?_ ?_ _ | refine blE ?_ | refine blF _ ?_ | refine blG ?_ _ | refine blH ?_ | refine blI ?_ ?_ _) | (simp only [World.size_alloc]; omega) | (simp <;> omega))))
          have ht0 : (zq.1.alloc (.cells #[.int .i64 (q.1 + a), .int .i64 (q.2 + b)] 24)).cell? ⟨z.1.heap.size, 0, none⟩ = some (.slice B n c) := (World.cell?_alloc_lt _ _ _ (zq.lt0 gl)).trans ((zq.cell gl).trans g0)
          intro K23 hK23
          go_simp
          refine hK23 _ _ (.inr ht0) ?_
          intro K24 hK24
          (skip; (refine step_app _ rfl _ _ 38 rfl encPt_len (by decide) oneP (z.1.heap.size + 1) 24 (.agg #[.int .i64 0, .int .i64 0]) 16 infoPt2 rfl Try.underlying38 (.slice B n c) _ _ _ (by first | rfl | simp [Act.eval, Act.put]) ((own_below HQ.out zq.2).alloc _) _ _ _ (by first | rfl | simp [Act.eval, Act.put]) (HSR.out) ?c1 (by decide) ?c2 ?_; (case c1 => (first | (simp only [List.length_append, List.length_cons, List.length_nil]; omega) | omega | (simp; omega))); (case c2 => exact (by repeat (first | with_reducible exact Nat.le_refl _ | assumption | with_reducible refine le_alloc ?_ _ | with_reducible refine le_drew ?_ | with_reducible refine Kin.le _ ?_ | assumption | omega | (simp only [World.size_alloc]; omega)))); intro v' w1 hown' hg hbel hat'; ((obtain ⟨B', n', c', rfl⟩ := own_slice hown'); have HPn := Lib.hid (blk_app hg (by decide) (by repeat (first | with_reducible (first | exact blA | exact blB | refine blC _ ?_ | refine blD ?_ ?_ _ | refine blE ?_ | refine blF _ ?_ | refine blG ?_ _ | refine blH ?_ | refine blI ?_ ?_ _) | (simp only [World.size_alloc]; omega) | (simp <;> omega))) ((own_below HQ.out zq.2).alloc _) HP.out); have p1 : w1.cell? ⟨z.1.heap.size, 0, none⟩ = some (.slice B n c) := HPn.out.cell 0; have pf1 : w1.frozen? ⟨z.1.heap.size, 0, none⟩ = false := HPn.out.frozen 0; have pl1 := HPn.out.lt; have HOO := Lib.hid hown'; have HBE := Lib.hid hbel; clear hown' hg hbel hat')))
          refine hK24 _ _ (.inr p1) ?_
          intro K25 hK25
          go_simp
          refine hK25 _ _ (.inr p1) ?_
          intro K26 hK26
          go_simp
          refine hK26 _ _ (.inl rfl) ?_
          clear hK23 hK24 hK25 hK26 K23 K24 K25 K26
          refine wpListT_nil ?_
          (try simp only [Exit.then])
          go_wp2
          go_roundw
          case rel => exact ⟨m + 1, by omega, by go_num, B', n', c', Lib.hid (HPn.out.set_ 0 _), Lib.hid (by rw [HCS.out]; exact own_grownBy HOO.out (grownBy_set _) (own_ne HOO.out HPn.out (by decide))), ⟨_, Below.setCell (HZB.out.trans (HBE.out.mono (Nat.le_succ _))) (Nat.le_refl _) _⟩, rfl⟩
          case measure => simp [intOf]; omega
        · have HE12 := Lib.hid (show mvTo a b o m = o.map (mvP a b) by rw [show m = o.length by omega, mvTo_all])
          have HQ2 := Lib.hid (show z2.1.ownsRow (z.1.heap.size + 1) 24 2 (.slice B n c) (o.map (mvP a b)).length ((o.map (mvP a b)).flatMap encPt) by rw [← HE12.out]; exact HQ.out)
          have HRD := Lib.hid (Rd.own encPt_len HQ2.out)
          obtain ⟨AU, nU, cU, hsv⟩ := own_slice HOW.out
          have HFR := Lib.hid (own_fresh HQ2.out (v2 := u11) (fun q e => Nat.lt_succ_of_lt (HOW.out.lt q e).2))
          have hnc := own_len encPt_len (by decide) HQ2.out
          rw [List.length_map] at hnc
          have g0 : z2.1.cell? ⟨z.1.heap.size, 0, none⟩ = some (.slice B n c) := HP.out.cell 0
          have gl := HP.out.lt
          clear hsv
          go_wp2_with (at_builtin; refine wpList_app _ rfl _ _ 28 rfl encPol_len (by decide) onePol y1.1.heap.size 40 (.agg #[.slice none 0 0]) 24 infoPol rfl Try.underlying28 _ _ _ _ rfl ((own_below HOW.out z2.2).alloc _) _ _ _ rfl (rd_one _ encPol_len _ ((B, n, c) : PolH) _ rfl) ?c1 (by decide) ?c2 ?_; (case c1 => (first | (simp only [List.length_append, List.length_cons, List.length_nil]; omega) | omega | (simp; omega))); (case c2 => exact (by repeat (first | with_reducible exact Nat.le_refl _ | assumption | with_reducible refine le_alloc ?_ _ | with_reducible refine le_drew ?_ | with_reducible refine Kin.le _ ?_ | assumption | omega | (simp only [World.size_alloc]; omega)))); intro v' w1 hown' hg hbel hat'; ((obtain ⟨y, rfl⟩ : ∃ y : Kin y1.1, y.1 = w1 := ⟨⟨w1, Below.trans (by repeat (first | with_reducible (first | exact blA | exact blB | refine blC _ ?_ | refine blD ?_ ?_ _ | refine blE ?_ | refine blF _ ?_ | refine blG ?_ _ | refine blH ?_ | refine blI ?_ ?_ _) | (simp only [World.size_alloc]; omega) | (simp <;> omega))) hbel⟩, rfl⟩); have HPU := Lib.hid (OwnN.snoc (e := 40) (h := ((B, n, c) : PolH)) (x := o.map (mvP a b)) (HNE.out.below (by repeat (first | with_reducible (first | exact blA | exact blB | refine blC _ ?_ | refine blD ?_ ?_ _ | refine blE ?_ | refine blF _ ?_ | refine blG ?_ _ | refine blH ?_ | refine blI ?_ ?_ _) | (simp only [World.size_alloc]; omega) | (simp <;> omega)))) HAP.out hown' hg hat' trivial (HRD.out.below (by repeat (first | with_reducible (first | exact blA | exact blB | refine blC _ ?_ | refine blD ?_ ?_ _ | refine blE ?_ | refine blF _ ?_ | refine blG ?_ _ | refine blH ?_ | refine blI ?_ ?_ _) | (simp only [World.size_alloc]; omega) | (simp <;> omega)))) (HFR.out.imp (fun h => List.eq_nil_of_length_eq_zero h) id)); clear hown' hg hbel hat'))
          go_roundw
          case rel => exact ⟨k + 1, by omega, by go_num, Lib.hid (by rw [HSS.out]; exact HPU.out), y, rfl⟩
          case measure => simp [intOf]; omega
    · have HPF := Lib.hid (show RdPols z.1 _ (mvL a b l l.length) from by rw [show l.length = k by omega]; exact OwnN.rd encPol_len HO.out)
      have PR2 := Lib.hid (PR.out.below z.2)
      have r0 : z.1.cell? ⟨gR, 0, none⟩ = some (.slice AR nR cR) := PR2.out.cell 0
      have rl := PR2.out.lt
      have HR2 := Lib.hid (HR1.out.below z.2)
      go_wp2_with (first
        | (go_at_call 13; (with_reducible refine (Kin.callK (W := (Kin.wd z)) (by repeat (first | with_reducible (first | exact blA | exact blB | refine blC _ ?_ | refine blD ?_ ?_ _ | refine blE ?_ | refine blF _ ?_ | refine blG ?_ _ | refine blH ?_ | refine blI ?_ ?_ _) | (simp only [World.size_alloc]; omega) | (simp <;> omega))) (raster_is _ _ p _ (HPF.out.below (by repeat (first | with_reducible (first | exact blA | exact blB | refine blC _ ?_ | refine blD ?_ ?_ _ | refine blE ?_ | refine blF _ ?_ | refine blG ?_ _ | refine blH ?_ | refine blI ?_ ?_ _) | (simp only [World.size_alloc]; omega) | (simp <;> omega)))) HF2.out HE2.out HRO2.out)).mono ?_); rintro e w' ⟨zC, ⟨AS, nS, cS, rfl, hr⟩, hzC, rfl⟩; (have HS1 := Lib.hid hr; clear hr))
        | (go_at_call 19; (with_reducible refine (Kin.callK (W := ((Kin.wd zC).alloc (.cells #[.slice AS nS cS] 32))) (by repeat (first | with_reducible (first | exact blA | exact blB | refine blC _ ?_ | refine blD ?_ ?_ _ | refine blE ?_ | refine blF _ ?_ | refine blG ?_ _ | refine blH ?_ | refine blI ?_ ?_ _) | (simp only [World.size_alloc]; omega) | (simp <;> omega))) (shiftReg_is _ R dx dy 63 _ (HR2.out.below (by repeat (first | with_reducible (first | exact blA | exact blB | refine blC _ ?_ | refine blD ?_ ?_ _ | refine blE ?_ | refine blF _ ?_ | refine blG ?_ _ | refine blH ?_ | refine blI ?_ ?_ _) | (simp only [World.size_alloc]; omega) | (simp <;> omega)))) HV.out HWI.out (by omega) hdx hdy HSH.out)).mono ?_); rintro e w' ⟨zD, ⟨AT, nT, cT, rfl, hr⟩, hzD, rfl⟩; (have HT1 := Lib.hid hr; have PS := Lib.hid ((Blk.new (Kin.wd zC) 32 #[.slice AS nS cS]).below zD.2); have s0 : (Kin.wd zD).cell? ⟨(Kin.wd zC).heap.size, 0, none⟩ = some (.slice AS nS cS) := PS.out.cell 0; have sl := PS.out.lt; clear hr))
        | (go_at_call 15; (with_reducible refine (Kin.callK (W := (Kin.wd zD)) (by repeat (first | with_reducible (first | exact blA | exact blB | refine blC _ ?_ | refine blD ?_ ?_ _ | refine blE ?_ | refine blF _ ?_ | refine blG ?_ _ | refine blH ?_ | refine blI ?_ ?_ _) | (simp only [World.size_alloc]; omega) | (simp <;> omega))) (same18_t (a := R2) (b := R2) _ _ _ (HS1.out.below (by repeat (first | with_reducible (first | exact blA | exact blB | refine blC _ ?_ | refine blD ?_ ?_ _ | refine blE ?_ | refine blF _ ?_ | refine blG ?_ _ | refine blH ?_ | refine blI ?_ ?_ _) | (simp only [World.size_alloc]; omega) | (simp <;> omega)))) (HT1.out.below (by repeat (first | with_reducible (first | exact blA | exact blB | refine blC _ ?_ | refine blD ?_ ?_ _ | refine blE ?_ | refine blF _ ?_ | refine blG ?_ _ | refine blH ?_ | refine blI ?_ ?_ _) | (simp only [World.size_alloc]; omega) | (simp <;> omega)))) (rvalid_bd HV2.out) (rvalid_bd HV2.out) rfl)).mono ?_); rintro e w' ⟨zE, rfl, hzE, rfl⟩; skip)
        | (go_at_call 11; (with_reducible refine (Kin.callK (W := (Kin.wd zD)) (by repeat (first | with_reducible (first | exact blA | exact blB | refine blC _ ?_ | refine blD ?_ ?_ _ | refine blE ?_ | refine blF _ ?_ | refine blG ?_ _ | refine blH ?_ | refine blI ?_ ?_ _) | (simp only [World.size_alloc]; omega) | (simp <;> omega))) (awake19_any _)).mono ?_); rintro e w' ⟨zF, rfl, hzF, rfl⟩; skip))
      go_ret
      exact ⟨rfl, HY1.out.trans ((z.2.trans ((show Below z.1.heap.size z.1 zF.1 from (by repeat (first | with_reducible (first | exact blA | exact blB | refine blC _ ?_ | refine blD ?_ ?_ _ | refine blE ?_ | refine blF _ ?_ | refine blG ?_ _ | refine blH ?_ | refine blI ?_ ?_ _) | (simp only [World.size_alloc]; omega) | (simp <;> omega)))).mono z.2.size)).mono HY1.out.size)⟩
theorem rasMoves_walk (W : World) (v : Value) (h : IsPols W v) (v2 : Value) (h2 : IsInt v2) (v3 : Value) (h3 : IsInt v3) (v4 : Value) (h4 : IsInt v4) : Calls Try.prog 7 #[v, v2, v3, v4] W fun e W' => e = .returned (.bool true) ∧ Below W.heap.size W W' := by
  obtain ⟨l, h⟩ := h
  obtain ⟨p, rfl, _⟩ := h2
  obtain ⟨dx, rfl, _⟩ := h3
  obtain ⟨dy, rfl, _⟩ := h4
  by_cases hbad : rasE (someR l) p ≠ 0 ∨ dx < -20 ∨ 20 < dx ∨ dy < -20 ∨ 20 < dy
  · exact rasMoves_bad W v l h p dx dy hbad
  · exact rasMoves_good W v l h p dx dy (by omega) (by omega) (by omega)
set_option maxRecDepth 100000 in
theorem rasterMoves_lifted (os : Os) (started : os.Started) (H : Type) (enc : TypeId × Value → H) :
    ReturnsInHanded {} Try.checked os 7 .any (Rows.rasterMovesSpec.pre6 enc Try.prog Try.f7 Rows.rasterMovesRow.domain false) (Rows.rasterMovesSpec.post enc Try.prog Try.f7 false true false false) := by
  refine returnsInHanded_of_change (C := Try.checked) own started (by kernel_rfl) Try.func7
    (ChangeSpec.witness6 (enc := enc) (C := Try.checked) false ⟨#[], #[.slice none 0 0, .int .i64 0, .int .i64 0, .int .i64 0], []⟩ 8 (by kernel_rfl) (by kernel_rfl) (by kernel_rfl) (by kernel_rfl)) ?_
  intro W base args ds gs before hval0 hW hcnd _
  have hval : ∀ (j : Nat) t v, Try.f7.params[j]? = some t → args[j]? = some v → Value.okWide Try.prog W .any base t v := hval0
  have hW' := hW
  obtain ⟨p, q, hA0, hV, rfl, hfz, hnd⟩ := hW
  have hA : DataW.TrodAll enc Try.prog W 0 (fun _ => true) true Try.f7.params.toList args.toList ds p := hA0
  rw [Try.params7] at hA hval
  have hAA := hA
  obtain ⟨v0, vs0, d0, ds0, p0, q0, hargs, rfl, rfl, h0, r0⟩ := trodAll_cons hA
  obtain ⟨v1, vs1, d1, ds1, p1, q1, rfl, rfl, rfl, h1, r1⟩ := trodAll_cons r0
  obtain ⟨v2, vs2, d2, ds2, p2, q2, rfl, rfl, rfl, h2, r2⟩ := trodAll_cons r1
  obtain ⟨v3, vs3, d3, ds3, p3, q3, rfl, rfl, rfl, h3, r3⟩ := trodAll_cons r2
  obtain ⟨rfl, rfl, rfl⟩ := trodAll_nil r3
  obtain rfl : args = #[v0, v1, v2, v3] := by cases args; simp_all
  obtain ⟨rfl, rfl⟩ := trodVars_none hV
  have o0 := open_pols (hval 0 28 v0 rfl rfl) h0
  have o1 := open_i64 (hval 1 3 v1 rfl rfl) h1
  have o2 := open_i64 (hval 2 3 v2 rfl rfl) h2
  have o3 := open_i64 (hval 3 3 v3 rfl rfl) h3
  have hlt : ∀ x ∈ p0 ++ (p1 ++ (p2 ++ (p3 ++ []))), x.block < W.heap.size := fun x hx => hW'.lt x (by simpa using hx)
  refine (rasMoves_walk W _ o0 _ o1 _ o2 _ o3).mono fun e W' ⟨he, bel⟩ => ?_
  subst he
  exact ⟨_, rfl, _, _, _, [], _, [], hW', trodAll_mk1 (shut_bool Try.underlying4 _), below_trodAll laidOut bel _ _ _ _ (by
    intro t ht
    have hcl : ([28, 3, 3, 3] : List TypeId).all (fun t => Try.prog.readableRec t && decide (t < Try.prog.types.size)) = true := by kernel_rfl
    have := List.all_eq_true.1 hcl t ht
    simpa using this) hlt hAA, rfl, bel.frame _, fun h => by cases h⟩
theorem rasterMoves_heard : (Try.checked.prog.stopsHeard = true ∧ Try.checked.prog.mayEnter = true) ∧ Try.checked.prog.liftsFinal = Rows.rasterMovesRow.lifted := ⟨⟨by kernel_rfl, by kernel_rfl⟩, by kernel_rfl⟩
theorem rasterMoves_calls : (Try.checked.prog.inPlace 7 = Rows.rasterMovesRow.inPlace ∧ Try.checked.prog.unfollowed 7 = Rows.rasterMovesRow.unfollowed) ∧ (Try.checked.prog.recurses 7 = Rows.rasterMovesRow.recurses ∧ Try.checked.prog.varsNamed 7 = Rows.rasterMovesRow.named) := ⟨⟨by kernel_rfl, by kernel_rfl⟩, ⟨by kernel_rfl, by kernel_rfl⟩⟩
theorem rasterMoves_closed : joinedFacts Try.checked.prog 7 Try.f7 Rows.rasterMovesSpec Rows.rasterMovesRow = true := by
  unfold joinedFacts
  rw [rasterMoves_calls.1.1, rasterMoves_calls.1.2, rasterMoves_calls.2.1, rasterMoves_calls.2.2, rasterMoves_heard.1.1, rasterMoves_heard.1.2, rasterMoves_heard.2]
  kernel_rfl
/-- RasterMoves: for every input the call returns true, and the arguments read behind it as before. No condition. -/
theorem rasterMoves_holds : Rows.RasterMovesSaid :=
  OpenClaim.holds_of_wide 7 Try.f7 rfl rfl rfl rfl rfl rfl rfl ⟨rfl, rfl, rfl, rfl, rfl⟩ rfl rfl rfl rfl rfl (by kernel_rfl) Try.func7 rasterMoves_closed
    (of_decide_eq_true (by kernel_rfl)) (by unfold Func.isWrapper; rw [if_neg (of_decide_eq_false (by kernel_rfl))]; exact ⟨rfl, rfl⟩)
    (fun os started H enc _ => rasterMoves_lifted os started H enc)

end Go.Proofs.Ytbdmibbpojmkiaa

/- RasterExact: for every input the law returns true. No condition. -/
import Derived.Test.YtbdmibbpojmkiaaRasLawW
namespace Go.Proofs.Ytbdmibbpojmkiaa
set_option linter.unusedSimpArgs false
set_option linter.unusedVariables false
set_option maxRecDepth 100000
open Go.ChangeShapes Go.WideShapes Go.ChangeAt Go.RowKit Go.Joins Runs Reg Ras
attribute [local go_sem] Kin.cell Kin.frozen Kin.lt0 Kin.lt1 Kin.lt2 Kin.lt3 run_mkf
theorem rasR_row (l : List (List P2)) (p : Int) {y : Int} (hy : -4096 ≤ y ∧ y < 4096) : rwAt (rasR l p) y = rowP l p y := by
  have hv := (rasR_spec l p).1
  refine sep_ext (rwAt_in hv y).1 (rowP_spec l p y).1.1 fun x => ?_
  rw [← memC_rwAt hv, Bool.eq_iff_iff, (rasR_spec l p).2, (rowP_spec l p y).2]
  constructor
  · rintro ⟨h1, h2, h3⟩; exact ⟨h1, h3⟩
  · rintro ⟨h1, h3⟩; exact ⟨h1, hy, h3⟩
theorem rasR_mem (l : List (List P2)) (p : Int) {x y : Int} (hx : -4096 ≤ x ∧ x < 4096) (hy : -4096 ≤ y ∧ y < 4096) : memC (rasR l p) x y = decide (0 < wind l (ctr x p, ctr y p)) := by
  rw [Bool.eq_iff_iff, (rasR_spec l p).2]
  unfold inP
  constructor
  · rintro ⟨_, _, h⟩; exact h
  · intro h; exact ⟨hx, hy, h⟩
theorem containsC_is {b : Bool} (v : Value) (rows : List Reg.Row) (x y : Int) (w : World) (h : RdReg w v rows) (hv : rvalid rows = true) (hb : memC rows x y = b) :
    Calls Try.prog 21 #[v, .agg #[.int .i64 x, .int .i64 y]] w fun e w' => e = .returned (.bool b) ∧ Below w.heap.size w w' := by
  have := containsC_any v rows x y w h (rvalid_bd hv)
  rwa [hv, hb, Bool.true_and] at this
set_option maxHeartbeats 16000000 in
theorem rasExact_walk (W : World) (v : Value) (h : IsPols W v) (u : Value) (hu : IsInt u) (vc : Value) (hc : IsCell vc) : Calls Try.prog 8 #[v, u, vc] W fun e W' => e = .returned (.bool true) ∧ Below W.heap.size W W' := by
  obtain ⟨l, h⟩ := h
  obtain ⟨p, rfl, _⟩ := hu
  obtain ⟨x, y, rfl⟩ := hc
  have HF := Lib.hid (someR_few l)
  obtain ⟨E, hE⟩ : ∃ E, rasE (someR l) p = E := ⟨_, rfl⟩
  obtain ⟨R, hR⟩ : ∃ R, rasO (someR l) p = R := ⟨_, rfl⟩
  have HE := Lib.hid hE
  have HR := Lib.hid hR
  by_cases hbad : E ≠ 0 ∨ x < -4096 ∨ 4096 ≤ x ∨ y < -4096 ∨ 4096 ≤ y
  · have hc : (E != 0) = true ∨ ((E != 0) = false ∧ x < -4096) ∨ ((E != 0) = false ∧ ¬ x < -4096 ∧ 4096 ≤ x) ∨ ((E != 0) = false ∧ ¬ x < -4096 ∧ ¬ 4096 ≤ x ∧ y < -4096) ∨ ((E != 0) = false ∧ ¬ x < -4096 ∧ ¬ 4096 ≤ x ∧ ¬ y < -4096 ∧ 4096 ≤ y) := by
      cases he : (E != 0)
      · have : E = 0 := by simpa using he
        simp only [Bool.false_eq_true, false_or, true_and]
        omega
      · exact .inl rfl
    clear hbad hE hR
    rcases hc with c1 | ⟨c1, c2⟩ | ⟨c1, c2, c3⟩ | ⟨c1, c2, c3, c4⟩ | ⟨c1, c2, c3, c4, c5⟩
    all_goals
      go_enter Try.func8, Try.ntmps8
      go_wp2_with (first
        | (go_at_call 12; (with_reducible refine (Kin.callK (W := (W.alloc (.cells #[.int .i64 x, .int .i64 y] 23))) (by repeat (first | with_reducible (first | exact blA | exact blB | refine blC _ ?_ | refine blD ?_ ?_ _ | refine blE ?_ | refine blF _ ?_ | refine blG ?_ _ | refine blH ?_ | refine blI ?_ ?_ _) | (simp only [World.size_alloc]; omega) | (simp <;> omega))) (some19_any _ l _ (h.below (by repeat (first | with_reducible (first | exact blA | exact blB | refine blC _ ?_ | refine blD ?_ ?_ _ | refine blE ?_ | refine blF _ ?_ | refine blG ?_ _ | refine blH ?_ | refine blI ?_ ?_ _) | (simp only [World.size_alloc]; omega) | (simp <;> omega)))))).mono ?_); rintro e w' ⟨zA, ⟨u, rfl, hu⟩, hzA, rfl⟩; (have HU := Lib.hid hu; clear hu))
        | (go_at_call 13; (with_reducible refine (Kin.callK (W := (W.alloc (.cells #[.int .i64 x, .int .i64 y] 23))) (by repeat (first | with_reducible (first | exact blA | exact blB | refine blC _ ?_ | refine blD ?_ ?_ _ | refine blE ?_ | refine blF _ ?_ | refine blG ?_ _ | refine blH ?_ | refine blI ?_ ?_ _) | (simp only [World.size_alloc]; omega) | (simp <;> omega))) (raster_is _ _ p _ (HU.out.below (by repeat (first | with_reducible (first | exact blA | exact blB | refine blC _ ?_ | refine blD ?_ ?_ _ | refine blE ?_ | refine blF _ ?_ | refine blG ?_ _ | refine blH ?_ | refine blI ?_ ?_ _) | (simp only [World.size_alloc]; omega) | (simp <;> omega)))) HF.out HE.out HR.out)).mono ?_); rintro e w' ⟨zB, ⟨A, n, c, rfl, hr⟩, hzB, rfl⟩; (have PB := Lib.hid ((Blk.new W 23 #[.int .i64 x, .int .i64 y]).below zB.2); have p0 : (Kin.wd zB).cell? ⟨W.heap.size, 0, none⟩ = some (.int .i64 x) := PB.out.cell 0; have p1 : (Kin.wd zB).cell? ⟨W.heap.size, 1, none⟩ = some (.int .i64 y) := PB.out.cell 1; have pl := PB.out.lt))
        | (go_at_call 11; (with_reducible refine (Kin.callK (W := (Kin.wd zB)) (by repeat (first | with_reducible (first | exact blA | exact blB | refine blC _ ?_ | refine blD ?_ ?_ _ | refine blE ?_ | refine blF _ ?_ | refine blG ?_ _ | refine blH ?_ | refine blI ?_ ?_ _) | (simp only [World.size_alloc]; omega) | (simp <;> omega))) (awake19_any _)).mono ?_); rintro e w' ⟨zE, rfl, hzE, rfl⟩; skip))
      go_ret
      exact ⟨rfl, (by repeat (first | with_reducible (first | exact blA | exact blB | refine blC _ ?_ | refine blD ?_ ?_ _ | refine blE ?_ | refine blF _ ?_ | refine blG ?_ _ | refine blH ?_ | refine blI ?_ ?_ _) | (simp only [World.size_alloc]; omega) | (simp <;> omega)))⟩
  · obtain rfl : E = 0 := by omega
    have hx : -4096 ≤ x ∧ x < 4096 := by omega
    have hy : -4096 ≤ y ∧ y < 4096 := by omega
    have k1 : ¬ x < -4096 := by omega
    have k2 : ¬ 4096 ≤ x := by omega
    have k3 : ¬ y < -4096 := by omega
    have k4 : ¬ 4096 ≤ y := by omega
    obtain ⟨hpi, hok⟩ := rasE_zero.1 hE
    have hp := okPitch_iff.1 hpi
    have hRR : R = rasR (someR l) p := by rw [← hR]; unfold rasO; rw [if_pos hE]
    have HV := Lib.hid (show rvalid R = true by rw [← hR]; exact rasO_valid _ _)
    obtain ⟨hc1, hc2⟩ := cen_is (x := x) (y := y) (p := p) hx hy ⟨hp.1, hp.2.1⟩
    have HC1 := Lib.hid hc1
    have HC2 := Lib.hid hc2
    have HOK := Lib.hid hok
    obtain ⟨b, hb⟩ : ∃ b, memC R x y = b := ⟨_, rfl⟩
    have HB := Lib.hid hb
    have HB2 := Lib.hid (show decide (0 < wind (someR l) (ctr x p, ctr y p)) = b by rw [← hb, hRR, rasR_mem _ _ hx hy])
    have hrE : rowE (someR l) p y = 0 := rowE_zero.2 ⟨hE, okcI.2 hy⟩
    have HRE := Lib.hid hrE
    have HRO := Lib.hid (show rowO (someR l) p y = rwAt R y by unfold rowO; rw [if_pos hrE, hRR, rasR_row _ _ hy])
    have hwl : (rwAt R y).length ≤ 8192 := by rw [← HRO.out]; exact rowO_len _ _ _
    obtain ⟨Q, hQ⟩ : ∃ Q, rwAt R y = Q := ⟨_, rfl⟩
    rw [hQ] at HRO hwl
    have HQ := Lib.hid hQ
    have HRB := Lib.hid (rvalid_bd HV.out)
    clear hbad hE hR hpi hok hp hRR hc1 hc2 hb hrE hQ
    generalize hcx : (ctr x p, ctr y p) = cc at *
    clear hcx
    obtain ⟨cx, cy⟩ := cc
    go_enter Try.func8, Try.ntmps8
    go_wp2_with (first
      | (go_at_call 12; (with_reducible refine (Kin.callK (W := (W.alloc (.cells #[.int .i64 x, .int .i64 y] 23))) (by repeat (first | with_reducible (first | exact blA | exact blB | refine blC _ ?_ | refine blD ?_ ?_ _ | refine blE ?_ | refine blF _ ?_ | refine blG ?_ _ | refine blH ?_ | refine blI ?_ ?_ _) | (simp only [World.size_alloc]; omega) | (simp <;> omega))) (some19_any _ l _ (h.below (by repeat (first | with_reducible (first | exact blA | exact blB | refine blC _ ?_ | refine blD ?_ ?_ _ | refine blE ?_ | refine blF _ ?_ | refine blG ?_ _ | refine blH ?_ | refine blI ?_ ?_ _) | (simp only [World.size_alloc]; omega) | (simp <;> omega)))))).mono ?_); rintro e w' ⟨zA, ⟨u, rfl, hu⟩, hzA, rfl⟩; (have HU := Lib.hid hu; clear hu))
      | (go_at_call 13; (with_reducible refine (Kin.callK (W := (Kin.wd zA)) (by repeat (first | with_reducible (first | exact blA | exact blB | refine blC _ ?_ | refine blD ?_ ?_ _ | refine blE ?_ | refine blF _ ?_ | refine blG ?_ _ | refine blH ?_ | refine blI ?_ ?_ _) | (simp only [World.size_alloc]; omega) | (simp <;> omega))) (raster_is _ _ p _ (HU.out.below (by repeat (first | with_reducible (first | exact blA | exact blB | refine blC _ ?_ | refine blD ?_ ?_ _ | refine blE ?_ | refine blF _ ?_ | refine blG ?_ _ | refine blH ?_ | refine blI ?_ ?_ _) | (simp only [World.size_alloc]; omega) | (simp <;> omega)))) HF.out HE.out HR.out)).mono ?_); rintro e w' ⟨zB, ⟨A, n, c, rfl, hr⟩, hzB, rfl⟩; (have HRR := Lib.hid hr; clear hr; have PB := Lib.hid (((Blk.new W 23 #[.int .i64 x, .int .i64 y]).below zA.2).below zB.2); have p0 : (Kin.wd zB).cell? ⟨W.heap.size, 0, none⟩ = some (.int .i64 x) := PB.out.cell 0; have p1 : (Kin.wd zB).cell? ⟨W.heap.size, 1, none⟩ = some (.int .i64 y) := PB.out.cell 1; have pl := PB.out.lt))
      | (go_at_call 17; (with_reducible refine (Kin.callK (W := ((Kin.wd zB).alloc (.cells #[.slice A n c] 32))) (by repeat (first | with_reducible (first | exact blA | exact blB | refine blC _ ?_ | refine blD ?_ ?_ _ | refine blE ?_ | refine blF _ ?_ | refine blG ?_ _ | refine blH ?_ | refine blI ?_ ?_ _) | (simp only [World.size_alloc]; omega) | (simp <;> omega))) (rasRow_is _ _ p y _ (HU.out.below (by repeat (first | with_reducible (first | exact blA | exact blB | refine blC _ ?_ | refine blD ?_ ?_ _ | refine blE ?_ | refine blF _ ?_ | refine blG ?_ _ | refine blH ?_ | refine blI ?_ ?_ _) | (simp only [World.size_alloc]; omega) | (simp <;> omega)))) HF.out HRE.out HRO.out)).mono ?_); rintro e w' ⟨zC, ⟨uA, rfl, hr⟩, hzC, rfl⟩; (have HRA := Lib.hid hr; clear hr)))
    have PC := Lib.hid ((PB.out.below (show Below zB.1.heap.size zB.1 (zB.1.alloc (.cells #[.slice A n c] 32)) from (by repeat (first | with_reducible (first | exact blA | exact blB | refine blC _ ?_ | refine blD ?_ ?_ _ | refine blE ?_ | refine blF _ ?_ | refine blG ?_ _ | refine blH ?_ | refine blI ?_ ?_ _) | (simp only [World.size_alloc]; omega) | (simp <;> omega))))).below zC.2)
    have PR := Lib.hid ((Blk.new zB.1 32 #[.slice A n c]).below zC.2)
    have c0 : zC.1.cell? ⟨W.heap.size, 0, none⟩ = some (.int .i64 x) := PC.out.cell 0
    have c1 : zC.1.cell? ⟨W.heap.size, 1, none⟩ = some (.int .i64 y) := PC.out.cell 1
    have cl := PC.out.lt
    have r0 : zC.1.cell? ⟨zB.1.heap.size, 0, none⟩ = some (.slice A n c) := PR.out.cell 0
    have rl := PR.out.lt
    have HRC := Lib.hid (HRR.out.below (show Below zB.1.heap.size zB.1 zC.1 from (by repeat (first | with_reducible (first | exact blA | exact blB | refine blC _ ?_ | refine blD ?_ ?_ _ | refine blE ?_ | refine blF _ ?_ | refine blG ?_ _ | refine blH ?_ | refine blI ?_ ?_ _) | (simp only [World.size_alloc]; omega) | (simp <;> omega)))))
    have HUC := Lib.hid (HU.out.below (show Below zA.1.heap.size zA.1 zC.1 from (by repeat (first | with_reducible (first | exact blA | exact blB | refine blC _ ?_ | refine blD ?_ ?_ _ | refine blE ?_ | refine blF _ ?_ | refine blG ?_ _ | refine blH ?_ | refine blI ?_ ?_ _) | (simp only [World.size_alloc]; omega) | (simp <;> omega)))))
    obtain ⟨uB, hri, hrw⟩ := rowIs_some HRC.out y
    rw [HQ.out] at hrw
    have HRI := Lib.hid hri
    have HRW := Lib.hid hrw
    have hRl := HRB.out.1
    clear p0 p1 pl hri hrw
    cases b
    all_goals
      ((refine wp_region_kinK (W := (Kin.wd zC)) (by kernel_rfl) (by kernel_rfl) (by repeat (first | with_reducible (first | exact blA | exact blB | refine blC _ ?_ | refine blD ?_ ?_ _ | refine blE ?_ | refine blF _ ?_ | refine blG ?_ _ | refine blH ?_ | refine blI ?_ ?_ _) | (simp only [World.size_alloc]; omega) | (simp <;> omega))) ?_); (repeat' (first | go_big_quiet_step (first | (go_at_call 20; exact Kin.quiet _ (rvalid_is _ R _ (HRC.out.below (by repeat (first | with_reducible (first | exact blA | exact blB | refine blC _ ?_ | refine blD ?_ ?_ _ | refine blE ?_ | refine blF _ ?_ | refine blG ?_ _ | refine blH ?_ | refine blI ?_ ?_ _) | (simp only [World.size_alloc]; omega) | (simp <;> omega)))) HRB.out HV.out)) | (go_at_call 21; exact Kin.quiet _ (containsC_is _ R _ _ _ (HRC.out.below (by repeat (first | with_reducible (first | exact blA | exact blB | refine blC _ ?_ | refine blD ?_ ?_ _ | refine blE ?_ | refine blF _ ?_ | refine blG ?_ _ | refine blH ?_ | refine blI ?_ ?_ _) | (simp only [World.size_alloc]; omega) | (simp <;> omega)))) HV.out HB.out)) | (go_at_call 9; exact Kin.quiet _ (rasCenter_is _ _ _ _ HC1.out)) | (go_at_call 22; exact Kin.quiet _ (inside17_is _ (someR l) (cx, cy) _ (HUC.out.below (by repeat (first | with_reducible (first | exact blA | exact blB | refine blC _ ?_ | refine blD ?_ ?_ _ | refine blE ?_ | refine blF _ ?_ | refine blG ?_ _ | refine blH ?_ | refine blI ?_ ?_ _) | (simp only [World.size_alloc]; omega) | (simp <;> omega)))) HF.out HOK.out HC2.out HB2.out)) | (go_at_call 23; exact Kin.quiet _ (row18_any _ R y uB _ (HRC.out.below (by repeat (first | with_reducible (first | exact blA | exact blB | refine blC _ ?_ | refine blD ?_ ?_ _ | refine blE ?_ | refine blF _ ?_ | refine blG ?_ _ | refine blH ?_ | refine blI ?_ ?_ _) | (simp only [World.size_alloc]; omega) | (simp <;> omega)))) hRl (HRI.out.below (by repeat (first | with_reducible (first | exact blA | exact blB | refine blC _ ?_ | refine blD ?_ ?_ _ | refine blE ?_ | refine blF _ ?_ | refine blG ?_ _ | refine blH ?_ | refine blI ?_ ?_ _) | (simp only [World.size_alloc]; omega) | (simp <;> omega)))))) | (go_at_call 16; exact Kin.quiet _ (same06_t (a := Q) (b := Q) _ _ _ (HRA.out.below (by repeat (first | with_reducible (first | exact blA | exact blB | refine blC _ ?_ | refine blD ?_ ?_ _ | refine blE ?_ | refine blF _ ?_ | refine blG ?_ _ | refine blH ?_ | refine blI ?_ ?_ _) | (simp only [World.size_alloc]; omega) | (simp <;> omega)))) (HRW.out.below (by repeat (first | with_reducible (first | exact blA | exact blB | refine blC _ ?_ | refine blD ?_ ?_ _ | refine blE ?_ | refine blF _ ?_ | refine blG ?_ _ | refine blH ?_ | refine blI ?_ ?_ _) | (simp only [World.size_alloc]; omega) | (simp <;> omega)))) (by omega) rfl)) | (go_at_call 11; exact Kin.quiet _ (awake19_any _))) | ((refine wpQuiet_guard rfl rfl rfl rfl (fun hg => ?_) (fun hg => ?_)) <;> (fail_if_success (first | guard_hyp hg : true = true | guard_hyp hg : false = false)) <;> (try simp only [decide_eq_true_eq, decide_eq_false_iff_not] at hg) <;> simp only [Act.put, List.setIfInBounds_toArray, List.set_cons_zero, List.set_cons_succ]))); all_goals ((with_reducible refine wpQuiet_nil ?_); intro zq hz))
      all_goals
        go_wp2
        go_ret
        exact ⟨rfl, (by repeat (first | with_reducible (first | exact blA | exact blB | refine blC _ ?_ | refine blD ?_ ?_ _ | refine blE ?_ | refine blF _ ?_ | refine blG ?_ _ | refine blH ?_ | refine blI ?_ ?_ _) | (simp only [World.size_alloc]; omega) | (simp <;> omega)))⟩
set_option maxRecDepth 100000 in
theorem rasterExact_lifted (os : Os) (started : os.Started) (H : Type) (enc : TypeId × Value → H) :
    ReturnsInHanded {} Try.checked os 8 .any (Rows.rasterExactSpec.pre6 enc Try.prog Try.f8 Rows.rasterExactRow.domain false) (Rows.rasterExactSpec.post enc Try.prog Try.f8 false true false false) := by
  refine returnsInHanded_of_change (C := Try.checked) own started (by kernel_rfl) Try.func8
    (ChangeSpec.witness6 (enc := enc) (C := Try.checked) false ⟨#[], #[.slice none 0 0, .int .i64 0, .agg #[.int .i64 0, .int .i64 0]], []⟩ 8 (by kernel_rfl) (by kernel_rfl) (by kernel_rfl) (by kernel_rfl)) ?_
  intro W base args ds gs before hval0 hW hcnd _
  have hval : ∀ (j : Nat) t v, Try.f8.params[j]? = some t → args[j]? = some v → Value.okWide Try.prog W .any base t v := hval0
  have hW' := hW
  obtain ⟨p, q, hA0, hV, rfl, hfz, hnd⟩ := hW
  have hA : DataW.TrodAll enc Try.prog W 0 (fun _ => true) true Try.f8.params.toList args.toList ds p := hA0
  rw [Try.params8] at hA hval
  have hAA := hA
  obtain ⟨v0, vs0, d0, ds0, p0, q0, hargs, rfl, rfl, h0, r0⟩ := trodAll_cons hA
  obtain ⟨v1, vs1, d1, ds1, p1, q1, rfl, rfl, rfl, h1, r1⟩ := trodAll_cons r0
  obtain ⟨v2, vs2, d2, ds2, p2, q2, rfl, rfl, rfl, h2, r2⟩ := trodAll_cons r1
  obtain ⟨rfl, rfl, rfl⟩ := trodAll_nil r2
  obtain rfl : args = #[v0, v1, v2] := by cases args; simp_all
  obtain ⟨rfl, rfl⟩ := trodVars_none hV
  have o0 := open_pols (hval 0 28 v0 rfl rfl) h0
  have o1 := open_i64 (hval 1 3 v1 rfl rfl) h1
  have o2 := open_cell (hval 2 23 v2 rfl rfl) h2
  have hlt : ∀ x ∈ p0 ++ (p1 ++ (p2 ++ [])), x.block < W.heap.size := fun x hx => hW'.lt x (by simpa using hx)
  refine (rasExact_walk W _ o0 _ o1 _ o2).mono fun e W' ⟨he, bel⟩ => ?_
  subst he
  exact ⟨_, rfl, _, _, _, [], _, [], hW', trodAll_mk1 (shut_bool Try.underlying4 _), below_trodAll laidOut bel _ _ _ _ (by
    intro t ht
    have hcl : ([28, 3, 23] : List TypeId).all (fun t => Try.prog.readableRec t && decide (t < Try.prog.types.size)) = true := by kernel_rfl
    have := List.all_eq_true.1 hcl t ht
    simpa using this) hlt hAA, rfl, bel.frame _, fun h => by cases h⟩
theorem rasterExact_heard : (Try.checked.prog.stopsHeard = true ∧ Try.checked.prog.mayEnter = true) ∧ Try.checked.prog.liftsFinal = Rows.rasterExactRow.lifted := ⟨⟨by kernel_rfl, by kernel_rfl⟩, by kernel_rfl⟩
theorem rasterExact_calls : (Try.checked.prog.inPlace 8 = Rows.rasterExactRow.inPlace ∧ Try.checked.prog.unfollowed 8 = Rows.rasterExactRow.unfollowed) ∧ (Try.checked.prog.recurses 8 = Rows.rasterExactRow.recurses ∧ Try.checked.prog.varsNamed 8 = Rows.rasterExactRow.named) := ⟨⟨by kernel_rfl, by kernel_rfl⟩, ⟨by kernel_rfl, by kernel_rfl⟩⟩
theorem rasterExact_closed : joinedFacts Try.checked.prog 8 Try.f8 Rows.rasterExactSpec Rows.rasterExactRow = true := by
  unfold joinedFacts
  rw [rasterExact_calls.1.1, rasterExact_calls.1.2, rasterExact_calls.2.1, rasterExact_calls.2.2, rasterExact_heard.1.1, rasterExact_heard.1.2, rasterExact_heard.2]
  kernel_rfl
/-- RasterExact: for every input the call returns true, and the arguments read behind it as before. No condition. -/
theorem rasterExact_holds : Rows.RasterExactSaid :=
  OpenClaim.holds_of_wide 8 Try.f8 rfl rfl rfl rfl rfl rfl rfl ⟨rfl, rfl, rfl, rfl, rfl⟩ rfl rfl rfl rfl rfl (by kernel_rfl) Try.func8 rasterExact_closed
    (of_decide_eq_true (by kernel_rfl)) (by unfold Func.isWrapper; rw [if_neg (of_decide_eq_false (by kernel_rfl))]; exact ⟨rfl, rfl⟩)
    (fun os started H enc _ => rasterExact_lifted os started H enc)

end Go.Proofs.Ytbdmibbpojmkiaa

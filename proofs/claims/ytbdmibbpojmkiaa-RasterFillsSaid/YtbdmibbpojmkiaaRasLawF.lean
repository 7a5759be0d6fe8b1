/- RasterFills: for every input the law returns true. No condition. -/
import Derived.Test.YtbdmibbpojmkiaaRasLawW
namespace Go.Proofs.Ytbdmibbpojmkiaa
set_option linter.unusedSimpArgs false
set_option linter.unusedVariables false
set_option maxRecDepth 100000
open Go.ChangeShapes Go.WideShapes Go.ChangeAt Go.RowKit Go.Joins Runs Reg Ras
attribute [local go_sem] Kin.cell Kin.frozen Kin.lt0 Kin.lt1 Kin.lt2 Kin.lt3 run_mkf
set_option maxHeartbeats 8000000 in
theorem rasFills_walk (W : World) (v : Value) (h : IsPols W v) (u : Value) (hu : IsInt u) : Calls Try.prog 4 #[v, u] W fun e W' => e = .returned (.bool true) ∧ Below W.heap.size W W' := by
  obtain ⟨l, h⟩ := h
  obtain ⟨p, rfl, _⟩ := hu
  have HF := Lib.hid (someR_few l)
  have HV := Lib.hid (rasO_valid (someR l) p)
  obtain ⟨E, hE⟩ : ∃ E, rasE (someR l) p = E := ⟨_, rfl⟩
  obtain ⟨R, hR⟩ : ∃ R, rasO (someR l) p = R := ⟨_, rfl⟩
  rw [hR] at HV
  have HE := Lib.hid hE
  have HR := Lib.hid hR
  have ee : (E == E) = true := beq_self_eq_true E
  clear hE hR
  go_enter Try.func4, Try.ntmps4
  go_wp2_with (first
    | (go_at_call 12; (with_reducible refine (Kin.callK (W := W) (by repeat (first | with_reducible (first | exact blA | exact blB | refine blC _ ?_ | refine blD ?_ ?_ _ | refine blE ?_ | refine blF _ ?_ | refine blG ?_ _ | refine blH ?_ | refine blI ?_ ?_ _) | (simp only [World.size_alloc]; omega) | (simp <;> omega))) (some19_any _ l _ (h.below (by repeat (first | with_reducible (first | exact blA | exact blB | refine blC _ ?_ | refine blD ?_ ?_ _ | refine blE ?_ | refine blF _ ?_ | refine blG ?_ _ | refine blH ?_ | refine blI ?_ ?_ _) | (simp only [World.size_alloc]; omega) | (simp <;> omega)))))).mono ?_); rintro e w' ⟨zA, ⟨u, rfl, hu⟩, hzA, rfl⟩; (have HU := Lib.hid hu; clear hu))
    | (go_at_call 13; (with_reducible refine (Kin.callK (W := (Kin.wd zA)) (by repeat (first | with_reducible (first | exact blA | exact blB | refine blC _ ?_ | refine blD ?_ ?_ _ | refine blE ?_ | refine blF _ ?_ | refine blG ?_ _ | refine blH ?_ | refine blI ?_ ?_ _) | (simp only [World.size_alloc]; omega) | (simp <;> omega))) (raster_is _ _ p _ (HU.out.below (by repeat (first | with_reducible (first | exact blA | exact blB | refine blC _ ?_ | refine blD ?_ ?_ _ | refine blE ?_ | refine blF _ ?_ | refine blG ?_ _ | refine blH ?_ | refine blI ?_ ?_ _) | (simp only [World.size_alloc]; omega) | (simp <;> omega)))) HF.out HE.out HR.out)).mono ?_); rintro e w' ⟨zB, ⟨A, n, c, rfl, hr⟩, hzB, rfl⟩; (have HRA := Lib.hid hr; clear hr))
    | (go_at_call 14; (with_reducible refine (Kin.callK (W := ((Kin.wd zB).alloc (.cells #[.slice A n c] 32))) (by repeat (first | with_reducible (first | exact blA | exact blB | refine blC _ ?_ | refine blD ?_ ?_ _ | refine blE ?_ | refine blF _ ?_ | refine blG ?_ _ | refine blH ?_ | refine blI ?_ ?_ _) | (simp only [World.size_alloc]; omega) | (simp <;> omega))) (refRaster_is _ _ p _ (HU.out.below (by repeat (first | with_reducible (first | exact blA | exact blB | refine blC _ ?_ | refine blD ?_ ?_ _ | refine blE ?_ | refine blF _ ?_ | refine blG ?_ _ | refine blH ?_ | refine blI ?_ ?_ _) | (simp only [World.size_alloc]; omega) | (simp <;> omega)))) HF.out HE.out HR.out)).mono ?_); rintro e w' ⟨zC, ⟨A2, n2, c2, rfl, hr⟩, hzC, rfl⟩; (have HRB := Lib.hid hr; have PB := Lib.hid ((Blk.new (Kin.wd zB) 32 #[.slice A n c]).below zC.2); have p0 : (Kin.wd zC).cell? ⟨(Kin.wd zB).heap.size, 0, none⟩ = some (.slice A n c) := PB.out.cell 0; have pl := PB.out.lt; clear hr))
    | (go_at_call 15; (with_reducible refine (Kin.callK (W := (Kin.wd zC)) (by repeat (first | with_reducible (first | exact blA | exact blB | refine blC _ ?_ | refine blD ?_ ?_ _ | refine blE ?_ | refine blF _ ?_ | refine blG ?_ _ | refine blH ?_ | refine blI ?_ ?_ _) | (simp only [World.size_alloc]; omega) | (simp <;> omega))) (same18_t (a := R) (b := R) _ _ _ (HRA.out.below (by repeat (first | with_reducible (first | exact blA | exact blB | refine blC _ ?_ | refine blD ?_ ?_ _ | refine blE ?_ | refine blF _ ?_ | refine blG ?_ _ | refine blH ?_ | refine blI ?_ ?_ _) | (simp only [World.size_alloc]; omega) | (simp <;> omega)))) (HRB.out.below (by repeat (first | with_reducible (first | exact blA | exact blB | refine blC _ ?_ | refine blD ?_ ?_ _ | refine blE ?_ | refine blF _ ?_ | refine blG ?_ _ | refine blH ?_ | refine blI ?_ ?_ _) | (simp only [World.size_alloc]; omega) | (simp <;> omega)))) (rvalid_bd HV.out) (rvalid_bd HV.out) rfl)).mono ?_); rintro e w' ⟨zD, rfl, hzD, rfl⟩; skip)
    | (go_at_call 11; (with_reducible refine (Kin.callK (W := (Kin.wd zC)) (by repeat (first | with_reducible (first | exact blA | exact blB | refine blC _ ?_ | refine blD ?_ ?_ _ | refine blE ?_ | refine blF _ ?_ | refine blG ?_ _ | refine blH ?_ | refine blI ?_ ?_ _) | (simp only [World.size_alloc]; omega) | (simp <;> omega))) (awake19_any _)).mono ?_); rintro e w' ⟨zE, rfl, hzE, rfl⟩; skip))
  go_ret
  exact ⟨rfl, (by repeat (first | with_reducible (first | exact blA | exact blB | refine blC _ ?_ | refine blD ?_ ?_ _ | refine blE ?_ | refine blF _ ?_ | refine blG ?_ _ | refine blH ?_ | refine blI ?_ ?_ _) | (simp only [World.size_alloc]; omega) | (simp <;> omega)))⟩
set_option maxRecDepth 100000 in
theorem rasterFills_lifted (os : Os) (started : os.Started) (H : Type) (enc : TypeId × Value → H) :
    ReturnsInHanded {} Try.checked os 4 .any (Rows.rasterFillsSpec.pre6 enc Try.prog Try.f4 Rows.rasterFillsRow.domain false) (Rows.rasterFillsSpec.post enc Try.prog Try.f4 false true false false) := by
  refine returnsInHanded_of_change (C := Try.checked) own started (by kernel_rfl) Try.func4
    (ChangeSpec.witness6 (enc := enc) (C := Try.checked) false ⟨#[], #[.slice none 0 0, .int .i64 0], []⟩ 8 (by kernel_rfl) (by kernel_rfl) (by kernel_rfl) (by kernel_rfl)) ?_
  intro W base args ds gs before hval0 hW hcnd _
  have hval : ∀ (j : Nat) t v, Try.f4.params[j]? = some t → args[j]? = some v → Value.okWide Try.prog W .any base t v := hval0
  have hW' := hW
  obtain ⟨p, q, hA0, hV, rfl, hfz, hnd⟩ := hW
  have hA : DataW.TrodAll enc Try.prog W 0 (fun _ => true) true Try.f4.params.toList args.toList ds p := hA0
  rw [Try.params4] at hA hval
  have hAA := hA
  obtain ⟨v0, vs0, d0, ds0, p0, q0, hargs, rfl, rfl, h0, r0⟩ := trodAll_cons hA
  obtain ⟨v1, vs1, d1, ds1, p1, q1, rfl, rfl, rfl, h1, r1⟩ := trodAll_cons r0
  obtain ⟨rfl, rfl, rfl⟩ := trodAll_nil r1
  obtain rfl : args = #[v0, v1] := by cases args; simp_all
  obtain ⟨rfl, rfl⟩ := trodVars_none hV
  have o0 := open_pols (hval 0 28 v0 rfl rfl) h0
  have o1 := open_i64 (hval 1 3 v1 rfl rfl) h1
  have hlt : ∀ x ∈ p0 ++ (p1 ++ []), x.block < W.heap.size := fun x hx => hW'.lt x (by simpa using hx)
  refine (rasFills_walk W _ o0 _ o1).mono fun e W' ⟨he, bel⟩ => ?_
  subst he
  exact ⟨_, rfl, _, _, _, [], _, [], hW', trodAll_mk1 (shut_bool Try.underlying4 _), below_trodAll laidOut bel _ _ _ _ (by
    intro t ht
    have hcl : ([28, 3] : List TypeId).all (fun t => Try.prog.readableRec t && decide (t < Try.prog.types.size)) = true := by kernel_rfl
    have := List.all_eq_true.1 hcl t ht
    simpa using this) hlt hAA, rfl, bel.frame _, fun h => by cases h⟩
theorem rasterFills_heard : (Try.checked.prog.stopsHeard = true ∧ Try.checked.prog.mayEnter = true) ∧ Try.checked.prog.liftsFinal = Rows.rasterFillsRow.lifted := ⟨⟨by kernel_rfl, by kernel_rfl⟩, by kernel_rfl⟩
theorem rasterFills_calls : (Try.checked.prog.inPlace 4 = Rows.rasterFillsRow.inPlace ∧ Try.checked.prog.unfollowed 4 = Rows.rasterFillsRow.unfollowed) ∧ (Try.checked.prog.recurses 4 = Rows.rasterFillsRow.recurses ∧ Try.checked.prog.varsNamed 4 = Rows.rasterFillsRow.named) := ⟨⟨by kernel_rfl, by kernel_rfl⟩, ⟨by kernel_rfl, by kernel_rfl⟩⟩
theorem rasterFills_closed : joinedFacts Try.checked.prog 4 Try.f4 Rows.rasterFillsSpec Rows.rasterFillsRow = true := by
  unfold joinedFacts
  rw [rasterFills_calls.1.1, rasterFills_calls.1.2, rasterFills_calls.2.1, rasterFills_calls.2.2, rasterFills_heard.1.1, rasterFills_heard.1.2, rasterFills_heard.2]
  kernel_rfl
/-- RasterFills: for every input the call returns true, and the arguments read behind it as before. No condition. -/
theorem rasterFills_holds : Rows.RasterFillsSaid :=
  OpenClaim.holds_of_wide 4 Try.f4 rfl rfl rfl rfl rfl rfl rfl ⟨rfl, rfl, rfl, rfl, rfl⟩ rfl rfl rfl rfl rfl (by kernel_rfl) Try.func4 rasterFills_closed
    (of_decide_eq_true (by kernel_rfl)) (by unfold Func.isWrapper; rw [if_neg (of_decide_eq_false (by kernel_rfl))]; exact ⟨rfl, rfl⟩)
    (fun os started H enc _ => rasterFills_lifted os started H enc)

end Go.Proofs.Ytbdmibbpojmkiaa

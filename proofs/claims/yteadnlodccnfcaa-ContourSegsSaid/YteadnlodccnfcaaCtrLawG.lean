/- ContourSegs: for every input the law returns true. No condition. -/
import Derived.Test.YteadnlodccnfcaaCtrSome
namespace Go.Proofs.Yteadnlodccnfcaa
set_option linter.unusedSimpArgs false
set_option linter.unusedVariables false
set_option maxRecDepth 100000
open Go.ChangeShapes Go.WideShapes Go.ChangeAt Go.RowKit Go.Joins Planar
attribute [local go_sem] Kin.cell Kin.frozen Kin.lt0 Kin.lt1 Kin.lt2 Kin.lt3 run_mkf
set_option maxHeartbeats 8000000 in
theorem ctrSegs_walk (W : World) (v : Value) (h : IsPols W v) : Calls Try.prog 4 #[v] W fun e W' => e = .returned (.bool true) ∧ Below W.heap.size W W' := by
  obtain ⟨l, h, hw⟩ := h
  have h8 := someP_len l
  have HWF := Lib.hid (segsL_wf (someP_wf hw))
  have hsl : (segsL (someP l)).length ≤ 8 * 20 := segsL_bd h8 (fun o ho => someP_each ho)
  obtain ⟨q, hq⟩ : ∃ q, someP l = q := ⟨_, rfl⟩
  rw [hq] at h8 HWF hsl
  have HQ := Lib.hid hq
  have HB := Lib.hid (balB_segsL q)
  clear hq hw
  go_enter Try.func4, Try.ntmps4
  go_wp2_with fail
  (go_at_call 20; (with_reducible refine (Kin.callK (W := W) (by repeat (first | with_reducible (first | exact blA | exact blB | refine blC _ ?_ | refine blD ?_ ?_ _ | refine blE ?_ | refine blF _ ?_ | refine blG ?_ _ | refine blH ?_ | refine blI ?_ ?_ _) | (simp only [World.size_alloc]; omega) | (simp <;> omega))) (some16_any _ l _ h)).mono ?_); rintro e w' ⟨z1, ⟨u, rfl, hu⟩, hz1, rfl⟩; skip)
  rw [HQ.out] at hu
  have HU := Lib.hid hu
  clear hu hz1 h
  go_wp2_with fail
  (go_at_call 21; (with_reducible refine (Kin.callK (W := W) (by repeat (first | with_reducible (first | exact blA | exact blB | refine blC _ ?_ | refine blD ?_ ?_ _ | refine blE ?_ | refine blF _ ?_ | refine blG ?_ _ | refine blH ?_ | refine blI ?_ ?_ _) | (simp only [World.size_alloc]; omega) | (simp <;> omega))) (segs_any _ q _ HU.out (by omega) (by omega))).mono ?_); rintro e w' ⟨z2, ⟨u2, rfl, hu2⟩, hz2, rfl⟩; skip)
  replace HU := Lib.hid (HU.out.below hz2)
  have H2 := Lib.hid (Rd.own encSg_len hu2)
  clear hu2 hz2
  go_wp2_with fail
  (go_at_call 23; (with_reducible refine (Kin.callK (W := W) (by repeat (first | with_reducible (first | exact blA | exact blB | refine blC _ ?_ | refine blD ?_ ?_ _ | refine blE ?_ | refine blF _ ?_ | refine blG ?_ _ | refine blH ?_ | refine blI ?_ ?_ _) | (simp only [World.size_alloc]; omega) | (simp <;> omega))) (segsR_any _ q _ HU.out (by omega) (by omega))).mono ?_); rintro e w' ⟨z3, ⟨u3, rfl, hu3⟩, hz3, rfl⟩; skip)
  replace H2 := Lib.hid (H2.out.below hz3)
  have H3 := Lib.hid (Rd.own encSg_len hu3)
  clear hu3 hz3
  go_wp2_with fail
  (go_at_call 22; (with_reducible refine (Kin.callK (W := W) (by repeat (first | with_reducible (first | exact blA | exact blB | refine blC _ ?_ | refine blD ?_ ?_ _ | refine blE ?_ | refine blF _ ?_ | refine blG ?_ _ | refine blH ?_ | refine blI ?_ ?_ _) | (simp only [World.size_alloc]; omega) | (simp <;> omega))) (sameSegs_true _ _ (segsL q) _ H2.out H3.out (by omega))).mono ?_); rintro e w' ⟨z4, rfl, hz4, rfl⟩; skip)
  replace H2 := Lib.hid (H2.out.below hz4)
  clear hz4
  go_wp2_with fail
  (go_at_call 17; (with_reducible refine (Kin.callK (W := W) (by repeat (first | with_reducible (first | exact blA | exact blB | refine blC _ ?_ | refine blD ?_ ?_ _ | refine blE ?_ | refine blF _ ?_ | refine blG ?_ _ | refine blH ?_ | refine blI ?_ ?_ _) | (simp only [World.size_alloc]; omega) | (simp <;> omega))) (bal_is _ (segsL q) _ H2.out HWF.out (by omega) HB.out)).mono ?_); rintro e w' ⟨z5, rfl, hz5, rfl⟩; skip)
  clear hz5
  go_wp2_with fail
  (go_at_call 19; (with_reducible refine (Kin.callK (W := W) (by repeat (first | with_reducible (first | exact blA | exact blB | refine blC _ ?_ | refine blD ?_ ?_ _ | refine blE ?_ | refine blF _ ?_ | refine blG ?_ _ | refine blH ?_ | refine blI ?_ ?_ _) | (simp only [World.size_alloc]; omega) | (simp <;> omega))) (awake16_any _)).mono ?_); rintro e w' ⟨z6, rfl, hz6, rfl⟩; skip)
  go_wp2_with fail
  go_ret
  exact ⟨rfl, z6.2⟩
set_option maxRecDepth 100000 in
theorem contourSegs_lifted (os : Os) (started : os.Started) (H : Type) (enc : TypeId × Value → H) :
    ReturnsInHanded {} Try.checked os 4 .any (Rows.contourSegsSpec.pre6 enc Try.prog Try.f4 Rows.contourSegsRow.domain false) (Rows.contourSegsSpec.post enc Try.prog Try.f4 false true false false) := by
  refine returnsInHanded_of_change (C := Try.checked) own started (by kernel_rfl) Try.func4
    (ChangeSpec.witness6 (enc := enc) (C := Try.checked) false ⟨#[], #[.slice none 0 0], []⟩ 8 (by kernel_rfl) (by kernel_rfl) (by kernel_rfl) (by kernel_rfl)) ?_
  intro W base args ds gs before hval0 hW hcnd _
  have hval : ∀ (j : Nat) t v, Try.f4.params[j]? = some t → args[j]? = some v → Value.okWide Try.prog W .any base t v := hval0
  have hW' := hW
  obtain ⟨p, q, hA0, hV, rfl, hfz, hnd⟩ := hW
  have hA : DataW.TrodAll enc Try.prog W 0 (fun _ => true) true Try.f4.params.toList args.toList ds p := hA0
  rw [Try.params4] at hA hval
  have hAA := hA
  obtain ⟨v0, vs0, d0, ds0, p0, q0, hargs, rfl, rfl, h0, r0⟩ := trodAll_cons hA
  obtain ⟨rfl, rfl, rfl⟩ := trodAll_nil r0
  obtain rfl : args = #[v0] := by cases args; simp_all
  obtain ⟨rfl, rfl⟩ := trodVars_none hV
  have o0 := open_pols (hval 0 24 v0 rfl rfl) h0
  have hlt : ∀ x ∈ p0 ++ [], x.block < W.heap.size := fun x hx => hW'.lt x (by simpa using hx)
  refine (ctrSegs_walk W _ o0).mono fun e W' ⟨he, bel⟩ => ?_
  subst he
  exact ⟨_, rfl, _, _, _, [], _, [], hW', trodAll_mk1 (shut_bool Try.underlying4 _), below_trodAll laidOut bel _ _ _ _ (by
    intro t ht
    have hcl : ([24] : List TypeId).all (fun t => Try.prog.readableRec t && decide (t < Try.prog.types.size)) = true := by kernel_rfl
    have := List.all_eq_true.1 hcl t ht
    simpa using this) hlt hAA, rfl, bel.frame _, fun h => by cases h⟩
theorem contourSegs_heard : (Try.checked.prog.stopsHeard = true ∧ Try.checked.prog.mayEnter = true) ∧ Try.checked.prog.liftsFinal = Rows.contourSegsRow.lifted := ⟨⟨by kernel_rfl, by kernel_rfl⟩, by kernel_rfl⟩
theorem contourSegs_calls : (Try.checked.prog.inPlace 4 = Rows.contourSegsRow.inPlace ∧ Try.checked.prog.unfollowed 4 = Rows.contourSegsRow.unfollowed) ∧ (Try.checked.prog.recurses 4 = Rows.contourSegsRow.recurses ∧ Try.checked.prog.varsNamed 4 = Rows.contourSegsRow.named) := ⟨⟨by kernel_rfl, by kernel_rfl⟩, ⟨by kernel_rfl, by kernel_rfl⟩⟩
theorem contourSegs_closed : joinedFacts Try.checked.prog 4 Try.f4 Rows.contourSegsSpec Rows.contourSegsRow = true := by
  unfold joinedFacts
  rw [contourSegs_calls.1.1, contourSegs_calls.1.2, contourSegs_calls.2.1, contourSegs_calls.2.2, contourSegs_heard.1.1, contourSegs_heard.1.2, contourSegs_heard.2]
  kernel_rfl
/-- ContourSegs: for every input the call returns true, and the arguments read behind it as before. No condition. -/
theorem contourSegs_holds : Rows.ContourSegsSaid :=
  OpenClaim.holds_of_wide 4 Try.f4 rfl rfl rfl rfl rfl rfl rfl ⟨rfl, rfl, rfl, rfl, rfl⟩ rfl rfl rfl rfl rfl (by kernel_rfl) Try.func4 contourSegs_closed
    (of_decide_eq_true (by kernel_rfl)) (by unfold Func.isWrapper; rw [if_neg (of_decide_eq_false (by kernel_rfl))]; exact ⟨rfl, rfl⟩)
    (fun os started H enc _ => contourSegs_lifted os started H enc)

end Go.Proofs.Yteadnlodccnfcaa

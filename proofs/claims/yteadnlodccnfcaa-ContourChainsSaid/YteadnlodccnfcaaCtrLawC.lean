/- ContourChains: for every input the law returns true. No condition. -/
import Derived.Test.YteadnlodccnfcaaCtrChW
import Derived.Test.YteadnlodccnfcaaCtrLawA
namespace Go.Proofs.Yteadnlodccnfcaa
set_option linter.unusedSimpArgs false
set_option linter.unusedVariables false
set_option maxRecDepth 100000
open Go.ChangeShapes Go.WideShapes Go.ChangeAt Go.RowKit Go.Joins Planar
attribute [local go_sem] Kin.cell Kin.frozen Kin.lt0 Kin.lt1 Kin.lt2 Kin.lt3 run_mkf
theorem chainR_is {E : Int} {R : List (List Pt)} (v : Value) (l : List Sg) (w : World) (h : Rd 4 encSg w v l) (hw : ∀ s ∈ l, wfS s) (hE : chErr l = E) (hR : chLst l = R) :
    Calls Try.prog 15 #[v] w fun e w' => (∃ u, e = .returned (.tuple #[u, .int .i64 E]) ∧ RdPols w' u R) ∧ Below w.heap.size w w' := by
  subst hE hR
  exact chainR_any v l w h hw
set_option maxHeartbeats 8000000 in
theorem ctrChains_walk (W : World) (v : Value) (h : IsSegs W v) : Calls Try.prog 3 #[v] W fun e W' => e = .returned (.bool true) ∧ Below W.heap.size W W' := by
  obtain ⟨l, h, hw⟩ := h
  have h4 := fewL_len l
  have hwf := fewL_wf hw
  obtain ⟨q, hq⟩ : ∃ q, fewL l = q := ⟨_, rfl⟩
  rw [hq] at h4 hwf
  have HQ := Lib.hid hq
  have HWF := Lib.hid hwf
  have HSM := Lib.hid (chLst_small h4)
  obtain ⟨C, hC⟩ : ∃ C, chLst q = C := ⟨_, rfl⟩
  obtain ⟨E, hE⟩ : ∃ E, chErr q = E := ⟨_, rfl⟩
  obtain ⟨B, hB⟩ : ∃ B, balB q = B := ⟨_, rfl⟩
  rw [hC] at HSM
  have HC := Lib.hid hC
  have HE := Lib.hid hE
  have HB := Lib.hid hB
  have hcl := HSM.out.1
  have ee : (E == E) = true := beq_self_eq_true E
  have eb : (B == B) = true := beq_self_eq_true B
  clear hq hw hwf hC hE hB
  go_enter Try.func3, Try.ntmps3
  go_wp2_with fail
  (go_at_call 13; (with_reducible refine (Kin.callK (W := W) (by repeat (first | with_reducible (first | exact blA | exact blB | refine blC _ ?_ | refine blD ?_ ?_ _ | refine blE ?_ | refine blF _ ?_ | refine blG ?_ _ | refine blH ?_ | refine blI ?_ ?_ _) | (simp only [World.size_alloc]; omega) | (simp <;> omega))) (few16_any _ l _ h)).mono ?_); rintro e w' ⟨z1, ⟨u, rfl, hu⟩, hz1, rfl⟩; skip)
  rw [HQ.out] at hu
  have HU := Lib.hid hu
  clear hu hz1 h
  go_wp2_with fail
  (go_at_call 14; (with_reducible refine (Kin.callK (W := W) (by repeat (first | with_reducible (first | exact blA | exact blB | refine blC _ ?_ | refine blD ?_ ?_ _ | refine blE ?_ | refine blF _ ?_ | refine blG ?_ _ | refine blH ?_ | refine blI ?_ ?_ _) | (simp only [World.size_alloc]; omega) | (simp <;> omega))) (chain_is _ q _ HU.out HWF.out HE.out HC.out)).mono ?_); rintro e w' ⟨z2, ⟨u2, rfl, h2⟩, hz2, rfl⟩; skip)
  replace HU := Lib.hid (HU.out.below hz2)
  have H2 := Lib.hid h2
  clear h2 hz2
  go_wp2_with fail
  (go_at_call 15; (with_reducible refine (Kin.callK (W := W) (by repeat (first | with_reducible (first | exact blA | exact blB | refine blC _ ?_ | refine blD ?_ ?_ _ | refine blE ?_ | refine blF _ ?_ | refine blG ?_ _ | refine blH ?_ | refine blI ?_ ?_ _) | (simp only [World.size_alloc]; omega) | (simp <;> omega))) (chainR_is _ q _ HU.out HWF.out HE.out HC.out)).mono ?_); rintro e w' ⟨z3, ⟨u3, rfl, h3⟩, hz3, rfl⟩; skip)
  replace HU := Lib.hid (HU.out.below hz3)
  replace H2 := Lib.hid (H2.out.below hz3)
  have H3 := Lib.hid h3
  clear h3 hz3
  go_wp2_with fail
  (go_at_call 16; (with_reducible refine (Kin.callK (W := W) (by repeat (first | with_reducible (first | exact blA | exact blB | refine blC _ ?_ | refine blD ?_ ?_ _ | refine blE ?_ | refine blF _ ?_ | refine blG ?_ _ | refine blH ?_ | refine blI ?_ ?_ _) | (simp only [World.size_alloc]; omega) | (simp <;> omega))) (samePols_true _ _ C _ H2.out H3.out (by omega) (fun o ho => Nat.le_trans (HSM.out.2 o ho) (by decide)))).mono ?_); rintro e w' ⟨z4, rfl, hz4, rfl⟩; skip)
  replace HU := Lib.hid (HU.out.below hz4)
  clear hz4
  go_wp2_with fail
  (go_at_call 17; (with_reducible refine (Kin.callK (W := W) (by repeat (first | with_reducible (first | exact blA | exact blB | refine blC _ ?_ | refine blD ?_ ?_ _ | refine blE ?_ | refine blF _ ?_ | refine blG ?_ _ | refine blH ?_ | refine blI ?_ ?_ _) | (simp only [World.size_alloc]; omega) | (simp <;> omega))) (bal_is _ q _ HU.out HWF.out (by omega) HB.out)).mono ?_); rintro e w' ⟨z5, rfl, hz5, rfl⟩; skip)
  replace HU := Lib.hid (HU.out.below hz5)
  clear hz5
  go_wp2_with fail
  (go_at_call 18; (with_reducible refine (Kin.callK (W := W) (by repeat (first | with_reducible (first | exact blA | exact blB | refine blC _ ?_ | refine blD ?_ ?_ _ | refine blE ?_ | refine blF _ ?_ | refine blG ?_ _ | refine blH ?_ | refine blI ?_ ?_ _) | (simp only [World.size_alloc]; omega) | (simp <;> omega))) (balancedR_is _ q _ HU.out (by omega) HB.out)).mono ?_); rintro e w' ⟨z6, rfl, hz6, rfl⟩; skip)
  clear hz6
  go_wp2_with fail
  (go_at_call 19; (with_reducible refine (Kin.callK (W := W) (by repeat (first | with_reducible (first | exact blA | exact blB | refine blC _ ?_ | refine blD ?_ ?_ _ | refine blE ?_ | refine blF _ ?_ | refine blG ?_ _ | refine blH ?_ | refine blI ?_ ?_ _) | (simp only [World.size_alloc]; omega) | (simp <;> omega))) (awake16_any _)).mono ?_); rintro e w' ⟨z7, rfl, hz7, rfl⟩; skip)
  go_wp2_with fail
  go_ret
  exact ⟨rfl, z7.2⟩
set_option maxRecDepth 100000 in
theorem contourChains_lifted (os : Os) (started : os.Started) (H : Type) (enc : TypeId × Value → H) :
    ReturnsInHanded {} Try.checked os 3 .any (Rows.contourChainsSpec.pre6 enc Try.prog Try.f3 Rows.contourChainsRow.domain false) (Rows.contourChainsSpec.post enc Try.prog Try.f3 false true false false) := by
  refine returnsInHanded_of_change (C := Try.checked) own started (by kernel_rfl) Try.func3
    (ChangeSpec.witness6 (enc := enc) (C := Try.checked) false ⟨#[], #[.slice none 0 0], []⟩ 8 (by kernel_rfl) (by kernel_rfl) (by kernel_rfl) (by kernel_rfl)) ?_
  intro W base args ds gs before hval0 hW hcnd _
  have hval : ∀ (j : Nat) t v, Try.f3.params[j]? = some t → args[j]? = some v → Value.okWide Try.prog W .any base t v := hval0
  have hW' := hW
  obtain ⟨p, q, hA0, hV, rfl, hfz, hnd⟩ := hW
  have hA : DataW.TrodAll enc Try.prog W 0 (fun _ => true) true Try.f3.params.toList args.toList ds p := hA0
  rw [Try.params3] at hA hval
  have hAA := hA
  obtain ⟨v0, vs0, d0, ds0, p0, q0, hargs, rfl, rfl, h0, r0⟩ := trodAll_cons hA
  obtain ⟨rfl, rfl, rfl⟩ := trodAll_nil r0
  obtain rfl : args = #[v0] := by cases args; simp_all
  obtain ⟨rfl, rfl⟩ := trodVars_none hV
  have o0 := open_segs (hval 0 22 v0 rfl rfl) h0
  have hlt : ∀ x ∈ p0 ++ [], x.block < W.heap.size := fun x hx => hW'.lt x (by simpa using hx)
  refine (ctrChains_walk W _ o0).mono fun e W' ⟨he, bel⟩ => ?_
  subst he
  exact ⟨_, rfl, _, _, _, [], _, [], hW', trodAll_mk1 (shut_bool Try.underlying4 _), below_trodAll laidOut bel _ _ _ _ (by
    intro t ht
    have hcl : ([22] : List TypeId).all (fun t => Try.prog.readableRec t && decide (t < Try.prog.types.size)) = true := by kernel_rfl
    have := List.all_eq_true.1 hcl t ht
    simpa using this) hlt hAA, rfl, bel.frame _, fun h => by cases h⟩
theorem contourChains_heard : (Try.checked.prog.stopsHeard = true ∧ Try.checked.prog.mayEnter = true) ∧ Try.checked.prog.liftsFinal = Rows.contourChainsRow.lifted := ⟨⟨by kernel_rfl, by kernel_rfl⟩, by kernel_rfl⟩
theorem contourChains_calls : (Try.checked.prog.inPlace 3 = Rows.contourChainsRow.inPlace ∧ Try.checked.prog.unfollowed 3 = Rows.contourChainsRow.unfollowed) ∧ (Try.checked.prog.recurses 3 = Rows.contourChainsRow.recurses ∧ Try.checked.prog.varsNamed 3 = Rows.contourChainsRow.named) := ⟨⟨by kernel_rfl, by kernel_rfl⟩, ⟨by kernel_rfl, by kernel_rfl⟩⟩
theorem contourChains_closed : joinedFacts Try.checked.prog 3 Try.f3 Rows.contourChainsSpec Rows.contourChainsRow = true := by
  unfold joinedFacts
  rw [contourChains_calls.1.1, contourChains_calls.1.2, contourChains_calls.2.1, contourChains_calls.2.2, contourChains_heard.1.1, contourChains_heard.1.2, contourChains_heard.2]
  kernel_rfl
/-- ContourChains: for every input the call returns true, and the arguments read behind it as before. No condition. -/
theorem contourChains_holds : Rows.ContourChainsSaid :=
  OpenClaim.holds_of_wide 3 Try.f3 rfl rfl rfl rfl rfl rfl rfl ⟨rfl, rfl, rfl, rfl, rfl⟩ rfl rfl rfl rfl rfl (by kernel_rfl) Try.func3 contourChains_closed
    (of_decide_eq_true (by kernel_rfl)) (by unfold Func.isWrapper; rw [if_neg (of_decide_eq_false (by kernel_rfl))]; exact ⟨rfl, rfl⟩)
    (fun os started H enc _ => contourChains_lifted os started H enc)

end Go.Proofs.Yteadnlodccnfcaa

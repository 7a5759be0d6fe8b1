/- ContourAgain: for every input the law returns true. No condition. -/
import Derived.Test.YteadnlodccnfcaaCtrEul
namespace Go.Proofs.Yteadnlodccnfcaa
set_option linter.unusedSimpArgs false
set_option linter.unusedVariables false
set_option maxRecDepth 100000
open Go.ChangeShapes Go.WideShapes Go.ChangeAt Go.RowKit Go.Joins Planar
attribute [local go_sem] Kin.cell Kin.frozen Kin.lt0 Kin.lt1 Kin.lt2 Kin.lt3 run_mkf
theorem chain_own (v : Value) (l : List Sg) (w : World) (h : Rd 4 encSg w v l) (hw : ∀ s ∈ l, wfS s) {E : Int} {R : List (List Pt)} (hE : chErr l = E) (hR : chLst l = R) :
    Calls Try.prog 14 #[v] w fun e w' => (∃ A c, e = .returned (.tuple #[.slice A R.length c, .int .i64 E]) ∧ RdPols w' (.slice A R.length c) R) ∧ Below w.heap.size w w' := by
  subst hE hR
  exact (chain_any v l w h hw).mono fun e w' ⟨⟨u, he, ho⟩, hb⟩ => by
    have hr := OwnN.rd encPol_len ho
    obtain ⟨A, cap, hu, _⟩ := pols_open hr
    subst hu
    exact ⟨⟨A, cap, he, hr⟩, hb⟩
theorem chWf {l : List Sg} (h : chErr l = 0) (hw : ∀ s ∈ l, wfS s) : ∀ s ∈ segsL (chLst l), wfS s := fun s hs => hw s (List.mem_filter.1 ((chain_uses h).1.mem_iff.2 hs)).1
theorem chLen {l : List Sg} (h : chErr l = 0) : (segsL (chLst l)).length ≤ l.length := by
  rw [← (chain_uses h).1.length_eq]; exact List.length_filter_le _ _
set_option maxHeartbeats 8000000 in
theorem ctrAgain_walk (W : World) (v : Value) (h : IsSegs W v) : Calls Try.prog 6 #[v] W fun e W' => e = .returned (.bool true) ∧ Below W.heap.size W W' := by
  obtain ⟨l, h, hw⟩ := h
  have h4 := fewL_len l
  have hwf := fewL_wf hw
  obtain ⟨q, hq⟩ : ∃ q, fewL l = q := ⟨_, rfl⟩
  rw [hq] at h4 hwf
  have HQ := Lib.hid hq
  have HWF := Lib.hid hwf
  have HSM := Lib.hid (chLst_small h4)
  clear hq hw hwf
  by_cases hE0 : chErr q = 0
  · have HWA := Lib.hid (chWf hE0 HWF.out)
    have hlA := chLen hE0
    have HAG := Lib.hid (chain_again hE0)
    obtain ⟨C, hC⟩ : ∃ C, chLst q = C := ⟨_, rfl⟩
    rw [hC] at HWA hlA HAG HSM
    have HC := Lib.hid hC
    have HE0 := Lib.hid hE0
    clear hC hE0
    have hcl := HSM.out.1
    go_enter Try.func6, Try.ntmps6
    go_wp2_with fail
    (go_at_call 13; (with_reducible refine (Kin.callK (W := W) (by repeat (first | with_reducible (first | exact blA | exact blB | refine blC _ ?_ | refine blD ?_ ?_ _ | refine blE ?_ | refine blF _ ?_ | refine blG ?_ _ | refine blH ?_ | refine blI ?_ ?_ _) | (simp only [World.size_alloc]; omega) | (simp <;> omega))) (few16_any _ l _ h)).mono ?_); rintro e w' ⟨z1, ⟨u, rfl, hu⟩, hz1, rfl⟩; skip)
    rw [HQ.out] at hu
    have HU := Lib.hid hu
    clear hu hz1 h
    go_wp2_with fail
    (go_at_call 14; (with_reducible refine (Kin.callK (W := W) (by repeat (first | with_reducible (first | exact blA | exact blB | refine blC _ ?_ | refine blD ?_ ?_ _ | refine blE ?_ | refine blF _ ?_ | refine blG ?_ _ | refine blH ?_ | refine blI ?_ ?_ _) | (simp only [World.size_alloc]; omega) | (simp <;> omega))) (chain_own _ q _ HU.out HWF.out HE0.out HC.out)).mono ?_); rintro e w' ⟨z2, ⟨A, c, rfl, h2⟩, hz2, rfl⟩; skip)
    have H2 := Lib.hid h2
    clear h2 hz2
    go_wp2_with fail
    (go_at_call 21; (with_reducible refine (Kin.callK (W := W) (by repeat (first | with_reducible (first | exact blA | exact blB | refine blC _ ?_ | refine blD ?_ ?_ _ | refine blE ?_ | refine blF _ ?_ | refine blG ?_ _ | refine blH ?_ | refine blI ?_ ?_ _) | (simp only [World.size_alloc]; omega) | (simp <;> omega))) (segs_any _ C _ H2.out (by omega) (by omega))).mono ?_); rintro e w' ⟨z3, ⟨u3, rfl, hu3⟩, hz3, rfl⟩; skip)
    replace H2 := Lib.hid (H2.out.below hz3)
    have H3 := Lib.hid (Rd.own encSg_len hu3)
    clear hu3 hz3
    go_wp2_with fail
    (go_at_call 14; (with_reducible refine (Kin.callK (W := W) (by repeat (first | with_reducible (first | exact blA | exact blB | refine blC _ ?_ | refine blD ?_ ?_ _ | refine blE ?_ | refine blF _ ?_ | refine blG ?_ _ | refine blH ?_ | refine blI ?_ ?_ _) | (simp only [World.size_alloc]; omega) | (simp <;> omega))) (chain_own _ (segsL C) _ H3.out HWA.out HAG.out.1 HAG.out.2)).mono ?_); rintro e w' ⟨z4, ⟨A4, c4, rfl, h4'⟩, hz4, rfl⟩; skip)
    replace H2 := Lib.hid (H2.out.below hz4)
    have H4 := Lib.hid h4'
    clear h4' hz4
    go_wp2_with fail
    (go_at_call 16; (with_reducible refine (Kin.callK (W := W) (by repeat (first | with_reducible (first | exact blA | exact blB | refine blC _ ?_ | refine blD ?_ ?_ _ | refine blE ?_ | refine blF _ ?_ | refine blG ?_ _ | refine blH ?_ | refine blI ?_ ?_ _) | (simp only [World.size_alloc]; omega) | (simp <;> omega))) (samePols_true _ _ C _ H2.out H4.out (by omega) (fun o ho => Nat.le_trans (HSM.out.2 o ho) (by decide)))).mono ?_); rintro e w' ⟨z5, rfl, hz5, rfl⟩; skip)
    clear hz5
    go_wp2_with fail
    (go_at_call 19; (with_reducible refine (Kin.callK (W := W) (by repeat (first | with_reducible (first | exact blA | exact blB | refine blC _ ?_ | refine blD ?_ ?_ _ | refine blE ?_ | refine blF _ ?_ | refine blG ?_ _ | refine blH ?_ | refine blI ?_ ?_ _) | (simp only [World.size_alloc]; omega) | (simp <;> omega))) (awake16_any _)).mono ?_); rintro e w' ⟨z6, rfl, hz6, rfl⟩; skip)
    go_wp2_with fail
    go_ret
    exact ⟨rfl, z6.2⟩
  · have HR := Lib.hid (show chLst q = [] by unfold chLst; rw [if_neg hE0])
    obtain ⟨E, hE⟩ : ∃ E, chErr q = E := ⟨_, rfl⟩
    have HE := Lib.hid hE
    rw [hE] at hE0
    have hE1 : (E != 0) = true := by rw [bne_iff_ne]; exact hE0
    clear hE
    go_enter Try.func6, Try.ntmps6
    go_wp2_with fail
    (go_at_call 13; (with_reducible refine (Kin.callK (W := W) (by repeat (first | with_reducible (first | exact blA | exact blB | refine blC _ ?_ | refine blD ?_ ?_ _ | refine blE ?_ | refine blF _ ?_ | refine blG ?_ _ | refine blH ?_ | refine blI ?_ ?_ _) | (simp only [World.size_alloc]; omega) | (simp <;> omega))) (few16_any _ l _ h)).mono ?_); rintro e w' ⟨z1, ⟨u, rfl, hu⟩, hz1, rfl⟩; skip)
    rw [HQ.out] at hu
    have HU := Lib.hid hu
    clear hu hz1 h
    go_wp2_with fail
    (go_at_call 14; (with_reducible refine (Kin.callK (W := W) (by repeat (first | with_reducible (first | exact blA | exact blB | refine blC _ ?_ | refine blD ?_ ?_ _ | refine blE ?_ | refine blF _ ?_ | refine blG ?_ _ | refine blH ?_ | refine blI ?_ ?_ _) | (simp only [World.size_alloc]; omega) | (simp <;> omega))) (chain_own _ q _ HU.out HWF.out HE.out HR.out)).mono ?_); rintro e w' ⟨z2, ⟨A, c, rfl, h2⟩, hz2, rfl⟩; skip)
    clear h2 hz2
    go_wp2_with fail
    (go_at_call 19; (with_reducible refine (Kin.callK (W := W) (by repeat (first | with_reducible (first | exact blA | exact blB | refine blC _ ?_ | refine blD ?_ ?_ _ | refine blE ?_ | refine blF _ ?_ | refine blG ?_ _ | refine blH ?_ | refine blI ?_ ?_ _) | (simp only [World.size_alloc]; omega) | (simp <;> omega))) (awake16_any _)).mono ?_); rintro e w' ⟨z6, rfl, hz6, rfl⟩; skip)
    go_wp2_with fail
    go_ret
    exact ⟨rfl, z6.2⟩
set_option maxRecDepth 100000 in
theorem contourAgain_lifted (os : Os) (started : os.Started) (H : Type) (enc : TypeId × Value → H) :
    ReturnsInHanded {} Try.checked os 6 .any (Rows.contourAgainSpec.pre6 enc Try.prog Try.f6 Rows.contourAgainRow.domain false) (Rows.contourAgainSpec.post enc Try.prog Try.f6 false true false false) := by
  refine returnsInHanded_of_change (C := Try.checked) own started (by kernel_rfl) Try.func6
    (ChangeSpec.witness6 (enc := enc) (C := Try.checked) false ⟨#[], #[.slice none 0 0], []⟩ 8 (by kernel_rfl) (by kernel_rfl) (by kernel_rfl) (by kernel_rfl)) ?_
  intro W base args ds gs before hval0 hW hcnd _
  have hval : ∀ (j : Nat) t v, Try.f6.params[j]? = some t → args[j]? = some v → Value.okWide Try.prog W .any base t v := hval0
  have hW' := hW
  obtain ⟨p, q, hA0, hV, rfl, hfz, hnd⟩ := hW
  have hA : DataW.TrodAll enc Try.prog W 0 (fun _ => true) true Try.f6.params.toList args.toList ds p := hA0
  rw [Try.params6] at hA hval
  have hAA := hA
  obtain ⟨v0, vs0, d0, ds0, p0, q0, hargs, rfl, rfl, h0, r0⟩ := trodAll_cons hA
  obtain ⟨rfl, rfl, rfl⟩ := trodAll_nil r0
  obtain rfl : args = #[v0] := by cases args; simp_all
  obtain ⟨rfl, rfl⟩ := trodVars_none hV
  have o0 := open_segs (hval 0 22 v0 rfl rfl) h0
  have hlt : ∀ x ∈ p0 ++ [], x.block < W.heap.size := fun x hx => hW'.lt x (by simpa using hx)
  refine (ctrAgain_walk W _ o0).mono fun e W' ⟨he, bel⟩ => ?_
  subst he
  exact ⟨_, rfl, _, _, _, [], _, [], hW', trodAll_mk1 (shut_bool Try.underlying4 _), below_trodAll laidOut bel _ _ _ _ (by
    intro t ht
    have hcl : ([22] : List TypeId).all (fun t => Try.prog.readableRec t && decide (t < Try.prog.types.size)) = true := by kernel_rfl
    have := List.all_eq_true.1 hcl t ht
    simpa using this) hlt hAA, rfl, bel.frame _, fun h => by cases h⟩
theorem contourAgain_heard : (Try.checked.prog.stopsHeard = true ∧ Try.checked.prog.mayEnter = true) ∧ Try.checked.prog.liftsFinal = Rows.contourAgainRow.lifted := ⟨⟨by kernel_rfl, by kernel_rfl⟩, by kernel_rfl⟩
theorem contourAgain_calls : (Try.checked.prog.inPlace 6 = Rows.contourAgainRow.inPlace ∧ Try.checked.prog.unfollowed 6 = Rows.contourAgainRow.unfollowed) ∧ (Try.checked.prog.recurses 6 = Rows.contourAgainRow.recurses ∧ Try.checked.prog.varsNamed 6 = Rows.contourAgainRow.named) := ⟨⟨by kernel_rfl, by kernel_rfl⟩, ⟨by kernel_rfl, by kernel_rfl⟩⟩
theorem contourAgain_closed : joinedFacts Try.checked.prog 6 Try.f6 Rows.contourAgainSpec Rows.contourAgainRow = true := by
  unfold joinedFacts
  rw [contourAgain_calls.1.1, contourAgain_calls.1.2, contourAgain_calls.2.1, contourAgain_calls.2.2, contourAgain_heard.1.1, contourAgain_heard.1.2, contourAgain_heard.2]
  kernel_rfl
/-- ContourAgain: for every input the call returns true, and the arguments read behind it as before. No condition. -/
theorem contourAgain_holds : Rows.ContourAgainSaid :=
  OpenClaim.holds_of_wide 6 Try.f6 rfl rfl rfl rfl rfl rfl rfl ⟨rfl, rfl, rfl, rfl, rfl⟩ rfl rfl rfl rfl rfl (by kernel_rfl) Try.func6 contourAgain_closed
    (of_decide_eq_true (by kernel_rfl)) (by unfold Func.isWrapper; rw [if_neg (of_decide_eq_false (by kernel_rfl))]; exact ⟨rfl, rfl⟩)
    (fun os started H enc _ => contourAgain_lifted os started H enc)

end Go.Proofs.Yteadnlodccnfcaa

/- ContourNests: for every input the law returns true. No condition. -/
import Derived.Test.YteadnlodccnfcaaCtrSome
import Derived.Test.YteadnlodccnfcaaCtrNestT
namespace Go.Proofs.Yteadnlodccnfcaa
set_option linter.unusedSimpArgs false
set_option linter.unusedVariables false
set_option maxRecDepth 100000
open Go.ChangeShapes Go.WideShapes Go.ChangeAt Go.RowKit Go.Joins Planar
attribute [local go_sem] Kin.cell Kin.frozen Kin.lt0 Kin.lt1 Kin.lt2 Kin.lt3 run_mkf
theorem nestR_is {E : Int} {R : List Int} (v : Value) (l : List (List Pt)) (w : World) (h : RdPols w v l) (hl : l.length ≤ 1000) (hb : ∀ o ∈ l, o.length ≤ 1000) (hE : nestE l = E) (hR : nestL l = R) :
    Calls Try.prog 26 #[v] w fun e w' => (∃ u, e = .returned (.tuple #[u, .int .i64 E]) ∧ Rd 1 encI w' u R) ∧ Below w.heap.size w w' := by
  subst hE hR
  exact (nestR_any v l w h hl hb).mono fun e w' ⟨⟨u, he, ho⟩, hb⟩ => ⟨⟨u, he, Rd.own encI_len ho⟩, hb⟩
theorem nestL_len (l : List (List Pt)) : (nestL l).length ≤ l.length := by
  unfold nestL
  split
  · rw [nestTo_len]; exact Nat.le_refl _
  · exact Nat.zero_le _
set_option maxHeartbeats 8000000 in
theorem ctrNests_walk (W : World) (v : Value) (h : IsPols W v) : Calls Try.prog 7 #[v] W fun e W' => e = .returned (.bool true) ∧ Below W.heap.size W W' := by
  obtain ⟨l, h, hw⟩ := h
  have h8 := someP_len l
  have HB := Lib.hid (fun o (ho : o ∈ someP l) => Nat.le_trans (someP_each ho) (show 20 ≤ 1000 by decide))
  obtain ⟨q, hq⟩ : ∃ q, someP l = q := ⟨_, rfl⟩
  rw [hq] at h8 HB
  have HQ := Lib.hid hq
  have hnl := nestL_len q
  obtain ⟨E, hE⟩ : ∃ E, nestE q = E := ⟨_, rfl⟩
  obtain ⟨R, hR⟩ : ∃ R, nestL q = R := ⟨_, rfl⟩
  rw [hR] at hnl
  have HE := Lib.hid hE
  have HR := Lib.hid hR
  have ee : (E == E) = true := beq_self_eq_true E
  clear hq hw hE hR
  go_enter Try.func7, Try.ntmps7
  go_wp2_with fail
  (go_at_call 20; (with_reducible refine (Kin.callK (W := W) (by repeat (first | with_reducible (first | exact blA | exact blB | refine blC _ ?_ | refine blD ?_ ?_ _ | refine blE ?_ | refine blF _ ?_ | refine blG ?_ _ | refine blH ?_ | refine blI ?_ ?_ _) | (simp only [World.size_alloc]; omega) | (simp <;> omega))) (some16_any _ l _ h)).mono ?_); rintro e w' ⟨z1, ⟨u, rfl, hu⟩, hz1, rfl⟩; skip)
  rw [HQ.out] at hu
  have HU := Lib.hid hu
  clear hu hz1 h
  go_wp2_with fail
  (go_at_call 25; (with_reducible refine (Kin.callK (W := W) (by repeat (first | with_reducible (first | exact blA | exact blB | refine blC _ ?_ | refine blD ?_ ?_ _ | refine blE ?_ | refine blF _ ?_ | refine blG ?_ _ | refine blH ?_ | refine blI ?_ ?_ _) | (simp only [World.size_alloc]; omega) | (simp <;> omega))) (nest_is _ q _ HU.out (by omega) HB.out HE.out HR.out)).mono ?_); rintro e w' ⟨z2, ⟨u2, rfl, hu2⟩, hz2, rfl⟩; skip)
  replace HU := Lib.hid (HU.out.below hz2)
  have H2 := Lib.hid hu2
  clear hu2 hz2
  go_wp2_with fail
  (go_at_call 26; (with_reducible refine (Kin.callK (W := W) (by repeat (first | with_reducible (first | exact blA | exact blB | refine blC _ ?_ | refine blD ?_ ?_ _ | refine blE ?_ | refine blF _ ?_ | refine blG ?_ _ | refine blH ?_ | refine blI ?_ ?_ _) | (simp only [World.size_alloc]; omega) | (simp <;> omega))) (nestR_is _ q _ HU.out (by omega) HB.out HE.out HR.out)).mono ?_); rintro e w' ⟨z3, ⟨u3, rfl, hu3⟩, hz3, rfl⟩; skip)
  replace H2 := Lib.hid (H2.out.below hz3)
  have H3 := Lib.hid hu3
  clear hu3 hz3
  go_wp2_with fail
  (go_at_call 27; (with_reducible refine (Kin.callK (W := W) (by repeat (first | with_reducible (first | exact blA | exact blB | refine blC _ ?_ | refine blD ?_ ?_ _ | refine blE ?_ | refine blF _ ?_ | refine blG ?_ _ | refine blH ?_ | refine blI ?_ ?_ _) | (simp only [World.size_alloc]; omega) | (simp <;> omega))) (ints_true _ _ R _ H2.out H3.out (by omega))).mono ?_); rintro e w' ⟨z4, rfl, hz4, rfl⟩; skip)
  clear hz4
  go_wp2_with fail
  (go_at_call 19; (with_reducible refine (Kin.callK (W := W) (by repeat (first | with_reducible (first | exact blA | exact blB | refine blC _ ?_ | refine blD ?_ ?_ _ | refine blE ?_ | refine blF _ ?_ | refine blG ?_ _ | refine blH ?_ | refine blI ?_ ?_ _) | (simp only [World.size_alloc]; omega) | (simp <;> omega))) (awake16_any _)).mono ?_); rintro e w' ⟨z6, rfl, hz6, rfl⟩; skip)
  go_wp2_with fail
  go_ret
  exact ⟨rfl, z6.2⟩
set_option maxRecDepth 100000 in
theorem contourNests_lifted (os : Os) (started : os.Started) (H : Type) (enc : TypeId × Value → H) :
    ReturnsInHanded {} Try.checked os 7 .any (Rows.contourNestsSpec.pre6 enc Try.prog Try.f7 Rows.contourNestsRow.domain false) (Rows.contourNestsSpec.post enc Try.prog Try.f7 false true false false) := by
  refine returnsInHanded_of_change (C := Try.checked) own started (by kernel_rfl) Try.func7
    (ChangeSpec.witness6 (enc := enc) (C := Try.checked) false ⟨#[], #[.slice none 0 0], []⟩ 8 (by kernel_rfl) (by kernel_rfl) (by kernel_rfl) (by kernel_rfl)) ?_
  intro W base args ds gs before hval0 hW hcnd _
  have hval : ∀ (j : Nat) t v, Try.f7.params[j]? = some t → args[j]? = some v → Value.okWide Try.prog W .any base t v := hval0
  have hW' := hW
  obtain ⟨p, q, hA0, hV, rfl, hfz, hnd⟩ := hW
  have hA : DataW.TrodAll enc Try.prog W 0 (fun _ => true) true Try.f7.params.toList args.toList ds p := hA0
  rw [Try.params7] at hA hval
  have hAA := hA
  obtain ⟨v0, vs0, d0, ds0, p0, q0, hargs, rfl, rfl, h0, r0⟩ := trodAll_cons hA
  obtain ⟨rfl, rfl, rfl⟩ := trodAll_nil r0
  obtain rfl : args = #[v0] := by cases args; simp_all
  obtain ⟨rfl, rfl⟩ := trodVars_none hV
  have o0 := open_pols (hval 0 24 v0 rfl rfl) h0
  have hlt : ∀ x ∈ p0 ++ [], x.block < W.heap.size := fun x hx => hW'.lt x (by simpa using hx)
  refine (ctrNests_walk W _ o0).mono fun e W' ⟨he, bel⟩ => ?_
  subst he
  exact ⟨_, rfl, _, _, _, [], _, [], hW', trodAll_mk1 (shut_bool Try.underlying4 _), below_trodAll laidOut bel _ _ _ _ (by
    intro t ht
    have hcl : ([24] : List TypeId).all (fun t => Try.prog.readableRec t && decide (t < Try.prog.types.size)) = true := by kernel_rfl
    have := List.all_eq_true.1 hcl t ht
    simpa using this) hlt hAA, rfl, bel.frame _, fun h => by cases h⟩
theorem contourNests_heard : (Try.checked.prog.stopsHeard = true ∧ Try.checked.prog.mayEnter = true) ∧ Try.checked.prog.liftsFinal = Rows.contourNestsRow.lifted := ⟨⟨by kernel_rfl, by kernel_rfl⟩, by kernel_rfl⟩
theorem contourNests_calls : (Try.checked.prog.inPlace 7 = Rows.contourNestsRow.inPlace ∧ Try.checked.prog.unfollowed 7 = Rows.contourNestsRow.unfollowed) ∧ (Try.checked.prog.recurses 7 = Rows.contourNestsRow.recurses ∧ Try.checked.prog.varsNamed 7 = Rows.contourNestsRow.named) := ⟨⟨by kernel_rfl, by kernel_rfl⟩, ⟨by kernel_rfl, by kernel_rfl⟩⟩
theorem contourNests_closed : joinedFacts Try.checked.prog 7 Try.f7 Rows.contourNestsSpec Rows.contourNestsRow = true := by
  unfold joinedFacts
  rw [contourNests_calls.1.1, contourNests_calls.1.2, contourNests_calls.2.1, contourNests_calls.2.2, contourNests_heard.1.1, contourNests_heard.1.2, contourNests_heard.2]
  kernel_rfl
/-- ContourNests: for every input the call returns true, and the arguments read behind it as before. No condition. -/
theorem contourNests_holds : Rows.ContourNestsSaid :=
  OpenClaim.holds_of_wide 7 Try.f7 rfl rfl rfl rfl rfl rfl rfl ⟨rfl, rfl, rfl, rfl, rfl⟩ rfl rfl rfl rfl rfl (by kernel_rfl) Try.func7 contourNests_closed
    (of_decide_eq_true (by kernel_rfl)) (by unfold Func.isWrapper; rw [if_neg (of_decide_eq_false (by kernel_rfl))]; exact ⟨rfl, rfl⟩)
    (fun os started H enc _ => contourNests_lifted os started H enc)

end Go.Proofs.Yteadnlodccnfcaa

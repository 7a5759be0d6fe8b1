/- ContourSimplifies: for every input the law returns true. No condition. -/
import Derived.Test.YteadnlodccnfcaaCtrSmR
namespace Go.Proofs.Yteadnlodccnfcaa
set_option linter.unusedSimpArgs false
set_option linter.unusedVariables false
set_option maxRecDepth 100000
open Go.ChangeShapes Go.WideShapes Go.ChangeAt Go.RowKit Go.Joins Planar
attribute [local go_sem] Kin.cell Kin.frozen Kin.lt0 Kin.lt1 Kin.lt2 Kin.lt3 run_mkf
theorem simplify_at {R : List Pt} (w : World) (A : Option Addr) (n c : Nat) (l : List Pt) (h : Rd 2 encPt w (.slice A n c) l) (hl : l.length ≤ 1000000) (hR : resP l = R) :
    Calls Try.prog 30 #[.agg #[.slice A n c]] w fun e w' => (∃ S m d, e = .returned (.agg #[.slice S m d]) ∧ Rd 2 encPt w' (.slice S m d) R) ∧ Below w.heap.size w w' := by
  subst hR
  refine (simplify_any w A n c l h hl).mono ?_
  rintro e w' ⟨⟨u, rfl, ho⟩, hb⟩
  obtain ⟨S, d, rfl⟩ := own_slc ho
  exact ⟨⟨_, _, _, rfl, Rd.own encPt_len ho⟩, hb⟩
theorem simpR_at {R : List Pt} (w : World) (A : Option Addr) (n c : Nat) (l : List Pt) (h : Rd 2 encPt w (.slice A n c) l) (hl : l.length ≤ 1000000) (hR : resP l = R) :
    Calls Try.prog 31 #[.agg #[.slice A n c]] w fun e w' => (∃ S m d, e = .returned (.agg #[.slice S m d]) ∧ Rd 2 encPt w' (.slice S m d) R) ∧ Below w.heap.size w w' := by
  subst hR
  refine (simpR_any w A n c l h hl).mono ?_
  rintro e w' ⟨⟨u, rfl, ho⟩, hb⟩
  obtain ⟨S, d, rfl⟩ := own_slc ho
  exact ⟨⟨_, _, _, rfl, Rd.own encPt_len ho⟩, hb⟩
theorem rdPols_at {w : World} {S : Option Addr} {m d b : Nat} {R : List Pt} (h : Rd 2 encPt w (.slice S m d) R) (hb : b = w.heap.size := by simp) : RdPols (w.alloc (.cells #[.slice S m d] 42)) (.slice (some ⟨b, 0, none⟩) 1 1) [R] := by
  refine ⟨[(S, m, d)], rd_one w encPol_len 42 (S, m, d) _ rfl hb, rfl, fun i y x hy hx => ?_⟩
  match i, hy, hx with
  | 0, hy, hx =>
    simp at hy hx
    subst hy hx
    exact ⟨trivial, h.below (Below.alloc (Below.refl _ _) (Nat.le_refl _) _)⟩
  | i + 1, hy, hx => simp at hy
theorem resP_len (l : List Pt) : (resP l).length ≤ l.length := by
  unfold resP
  split
  · exact Nat.zero_le _
  · exact simP_len l
def IsPol (W : World) (v : Value) : Prop := ∃ (A : Option Addr) (n c : Nat) (o : List Pt), v = .agg #[.slice A n c] ∧ Rd 2 encPt W (.slice A n c) o ∧ wfO o
set_option maxHeartbeats 8000000 in
theorem ctrSimplifies_walk (W : World) (v : Value) (h : IsPol W v) : Calls Try.prog 11 #[v] W fun e W' => e = .returned (.bool true) ∧ Below W.heap.size W W' := by
  obtain ⟨A, n, c, o, rfl, h, hw⟩ := h
  have hnc : n = o.length ∧ n ≤ c := by
    obtain ⟨A', c', e, hc, _⟩ := h
    injection e with e1 e2 e3
    subst e2 e3
    exact ⟨rfl, hc⟩
  have hnc2 := hnc.2
  by_cases h40 : 40 < n
  · obtain ⟨q, hq⟩ : ∃ q, o.take 40 = q := ⟨_, rfl⟩
    have hr := rd_cut h 40 c (by omega) (by omega)
    rw [hq] at hr
    have hql : q.length = 40 := by rw [← hq, List.length_take]; omega
    obtain ⟨R, hR⟩ : ∃ R, resP q = R := ⟨_, rfl⟩
    have hRl : R.length ≤ 40 := by rw [← hR]; have := resP_len q; omega
    have HR := Lib.hid hR
    have HQ := Lib.hid hr
    have HL := Lib.hid hql
    clear hr hq hql hR h hw hnc
    go_enter Try.func11, Try.ntmps11
    go_wp2_with fail
    have b_0 := (Blk.new W 42 #[.slice A 40 c]).cell 0
    have bl := (Blk.new W 42 #[.slice A 40 c]).lt
    replace HQ := Lib.hid (HQ.out.below (Below.alloc (Below.refl _ _) (Nat.le_refl _) (.cells #[.slice A 40 c] 42)))
    have hbw : Below W.heap.size W (W.alloc (.cells #[.slice A 40 c] 42)) := Below.alloc (Below.refl _ _) (Nat.le_refl _) _
    obtain ⟨W0, hW0⟩ : ∃ W0, W.alloc (.cells #[.slice A 40 c] 42) = W0 := ⟨_, rfl⟩
    rw [hW0] at b_0 bl HQ hbw ⊢
    have HBW := Lib.hid hbw
    clear hW0 hbw
    change W0.cell? ⟨W.heap.size, 0, none⟩ = some (.slice A 40 c) at b_0
    go_region_held (fun w' => w'.cell? ⟨W.heap.size, 0, none⟩ = some (.slice A 40 c)) (first | assumption | (refine (Kin.cell (W := W0) _ ?_).trans ?_ <;> assumption) | simp [*, World.cell?_alloc_some, World.cell?_setCell_far] | ((refine (World.cell?_setCell_other (by simp)).trans ?_); first | assumption | simp [*])) (first | (go_at_call 30; (with_reducible refine (Kin.callK (W := W0) (by repeat (first | with_reducible (first | exact blA | exact blB | refine blC _ ?_ | refine blD ?_ ?_ _ | refine blE ?_ | refine blF _ ?_ | refine blG ?_ _ | refine blH ?_ | refine blI ?_ ?_ _) | (simp only [World.size_alloc]; omega) | (simp <;> omega))) (simplify_at _ A 40 c q (HQ.out.below (by repeat (first | with_reducible (first | exact blA | exact blB | refine blC _ ?_ | refine blD ?_ ?_ _ | refine blE ?_ | refine blF _ ?_ | refine blG ?_ _ | refine blH ?_ | refine blI ?_ ?_ _) | (simp only [World.size_alloc]; omega) | (simp <;> omega)))) (by rw [HL.out]; omega) HR.out)).mono ?_); rintro e w' ⟨z1, ⟨S1, m1, d1, rfl, hu1⟩, hz1, rfl⟩; (have HU1 := Lib.hid hu1; clear hu1 hz1)) | (go_at_call 31; (with_reducible refine (Kin.callK (W := W0) (by repeat (first | with_reducible (first | exact blA | exact blB | refine blC _ ?_ | refine blD ?_ ?_ _ | refine blE ?_ | refine blF _ ?_ | refine blG ?_ _ | refine blH ?_ | refine blI ?_ ?_ _) | (simp only [World.size_alloc]; omega) | (simp <;> omega))) (simpR_at _ A 40 c q (HQ.out.below (by repeat (first | with_reducible (first | exact blA | exact blB | refine blC _ ?_ | refine blD ?_ ?_ _ | refine blE ?_ | refine blF _ ?_ | refine blG ?_ _ | refine blH ?_ | refine blI ?_ ?_ _) | (simp only [World.size_alloc]; omega) | (simp <;> omega)))) (by rw [HL.out]; omega) HR.out)).mono ?_); rintro e w' ⟨z2, ⟨S2, m2, d2, rfl, hu2⟩, hz2, rfl⟩; (have HU2 := Lib.hid hu2; have HZ2 := Lib.hid hz2; clear hu2 hz2)) | (go_at_call 16; (with_reducible refine (Kin.callK (W := W0) (by repeat (first | with_reducible (first | exact blA | exact blB | refine blC _ ?_ | refine blD ?_ ?_ _ | refine blE ?_ | refine blF _ ?_ | refine blG ?_ _ | refine blH ?_ | refine blI ?_ ?_ _) | (simp only [World.size_alloc]; omega) | (simp <;> omega))) (samePols_true _ _ [R] _ ((rdPols_at HU1.out).below (Below.alloc HZ2.out HZ2.out.size _)) (rdPols_at HU2.out) (by simp) (fun x hx => by rw [List.mem_singleton.1 hx]; omega))).mono ?_); rintro e w' ⟨z3, rfl, hz3, rfl⟩; skip) | (go_at_call 16; (with_reducible refine (Kin.callK (W := W0) (by repeat (first | with_reducible (first | exact blA | exact blB | refine blC _ ?_ | refine blD ?_ ?_ _ | refine blE ?_ | refine blF _ ?_ | refine blG ?_ _ | refine blH ?_ | refine blI ?_ ?_ _) | (simp only [World.size_alloc]; omega) | (simp <;> omega))) (samePols_true _ _ [R] _ ((rdPols_at (HU1.out.below HZ2.out)).below (Below.alloc (Below.refl _ _) (Nat.le_refl _) _)) (rdPols_at (HU2.out.below (Below.alloc (Below.refl _ _) (Nat.le_refl _) _))) (by simp) (fun x hx => by rw [List.mem_singleton.1 hx]; omega))).mono ?_); rintro e w' ⟨z3, rfl, hz3, rfl⟩; skip) | (go_at_call 16; (with_reducible refine (Kin.callK (W := W0) (by repeat (first | with_reducible (first | exact blA | exact blB | refine blC _ ?_ | refine blD ?_ ?_ _ | refine blE ?_ | refine blF _ ?_ | refine blG ?_ _ | refine blH ?_ | refine blI ?_ ?_ _) | (simp only [World.size_alloc]; omega) | (simp <;> omega))) (samePols_true _ _ [R] _ (rdPols_at ((HU1.out.below HZ2.out).below (Below.alloc (Below.refl _ _) (Nat.le_refl _) _))) ((rdPols_at HU2.out).below (Below.alloc (Below.refl _ _) (Nat.le_refl _) _)) (by simp) (fun x hx => by rw [List.mem_singleton.1 hx]; omega))).mono ?_); rintro e w' ⟨z3, rfl, hz3, rfl⟩; skip) | (go_at_call 19; (with_reducible refine (Kin.callK (W := W0) (by repeat (first | with_reducible (first | exact blA | exact blB | refine blC _ ?_ | refine blD ?_ ?_ _ | refine blE ?_ | refine blF _ ?_ | refine blG ?_ _ | refine blH ?_ | refine blI ?_ ?_ _) | (simp only [World.size_alloc]; omega) | (simp <;> omega))) (awake16_any _)).mono ?_); rintro e w' ⟨z4, rfl, hz4, rfl⟩; skip))
    all_goals
      go_wp2
      go_ret
      exact ⟨rfl, HBW.out.trans (Below.mono (by repeat (first | with_reducible (first | exact blA | exact blB | refine blC _ ?_ | refine blD ?_ ?_ _ | refine blE ?_ | refine blF _ ?_ | refine blG ?_ _ | refine blH ?_ | refine blI ?_ ?_ _) | (simp only [World.size_alloc]; omega) | (simp <;> omega))) HBW.out.size)⟩
  · obtain ⟨q, hq⟩ : ∃ q, o = q := ⟨_, rfl⟩
    have hr := h
    rw [hq] at hr
    have hql : q.length = n := by rw [← hq]; exact hnc.1.symm
    obtain ⟨R, hR⟩ : ∃ R, resP q = R := ⟨_, rfl⟩
    have hRl : R.length ≤ 40 := by rw [← hR]; have := resP_len q; omega
    have HR := Lib.hid hR
    have HQ := Lib.hid hr
    have HL := Lib.hid hql
    clear hr hq hql hR h hw hnc
    go_enter Try.func11, Try.ntmps11
    go_wp2_with fail
    have b_0 := (Blk.new W 42 #[.slice A n c]).cell 0
    have bl := (Blk.new W 42 #[.slice A n c]).lt
    replace HQ := Lib.hid (HQ.out.below (Below.alloc (Below.refl _ _) (Nat.le_refl _) (.cells #[.slice A n c] 42)))
    have hbw : Below W.heap.size W (W.alloc (.cells #[.slice A n c] 42)) := Below.alloc (Below.refl _ _) (Nat.le_refl _) _
    obtain ⟨W0, hW0⟩ : ∃ W0, W.alloc (.cells #[.slice A n c] 42) = W0 := ⟨_, rfl⟩
    rw [hW0] at b_0 bl HQ hbw ⊢
    have HBW := Lib.hid hbw
    clear hW0 hbw
    change W0.cell? ⟨W.heap.size, 0, none⟩ = some (.slice A n c) at b_0
    go_region_held (fun w' => w'.cell? ⟨W.heap.size, 0, none⟩ = some (.slice A n c)) (first | assumption | (refine (Kin.cell (W := W0) _ ?_).trans ?_ <;> assumption) | simp [*, World.cell?_alloc_some, World.cell?_setCell_far] | ((refine (World.cell?_setCell_other (by simp)).trans ?_); first | assumption | simp [*])) (first | (go_at_call 30; (with_reducible refine (Kin.callK (W := W0) (by repeat (first | with_reducible (first | exact blA | exact blB | refine blC _ ?_ | refine blD ?_ ?_ _ | refine blE ?_ | refine blF _ ?_ | refine blG ?_ _ | refine blH ?_ | refine blI ?_ ?_ _) | (simp only [World.size_alloc]; omega) | (simp <;> omega))) (simplify_at _ A n c q (HQ.out.below (by repeat (first | with_reducible (first | exact blA | exact blB | refine blC _ ?_ | refine blD ?_ ?_ _ | refine blE ?_ | refine blF _ ?_ | refine blG ?_ _ | refine blH ?_ | refine blI ?_ ?_ _) | (simp only [World.size_alloc]; omega) | (simp <;> omega)))) (by rw [HL.out]; omega) HR.out)).mono ?_); rintro e w' ⟨z1, ⟨S1, m1, d1, rfl, hu1⟩, hz1, rfl⟩; (have HU1 := Lib.hid hu1; clear hu1 hz1)) | (go_at_call 31; (with_reducible refine (Kin.callK (W := W0) (by repeat (first | with_reducible (first | exact blA | exact blB | refine blC _ ?_ | refine blD ?_ ?_ _ | refine blE ?_ | refine blF _ ?_ | refine blG ?_ _ | refine blH ?_ | refine blI ?_ ?_ _) | (simp only [World.size_alloc]; omega) | (simp <;> omega))) (simpR_at _ A n c q (HQ.out.below (by repeat (first | with_reducible (first | exact blA | exact blB | refine blC _ ?_ | refine blD ?_ ?_ _ | refine blE ?_ | refine blF _ ?_ | refine blG ?_ _ | refine blH ?_ | refine blI ?_ ?_ _) | (simp only [World.size_alloc]; omega) | (simp <;> omega)))) (by rw [HL.out]; omega) HR.out)).mono ?_); rintro e w' ⟨z2, ⟨S2, m2, d2, rfl, hu2⟩, hz2, rfl⟩; (have HU2 := Lib.hid hu2; have HZ2 := Lib.hid hz2; clear hu2 hz2)) | (go_at_call 16; (with_reducible refine (Kin.callK (W := W0) (by repeat (first | with_reducible (first | exact blA | exact blB | refine blC _ ?_ | refine blD ?_ ?_ _ | refine blE ?_ | refine blF _ ?_ | refine blG ?_ _ | refine blH ?_ | refine blI ?_ ?_ _) | (simp only [World.size_alloc]; omega) | (simp <;> omega))) (samePols_true _ _ [R] _ ((rdPols_at HU1.out).below (Below.alloc HZ2.out HZ2.out.size _)) (rdPols_at HU2.out) (by simp) (fun x hx => by rw [List.mem_singleton.1 hx]; omega))).mono ?_); rintro e w' ⟨z3, rfl, hz3, rfl⟩; skip) | (go_at_call 16; (with_reducible refine (Kin.callK (W := W0) (by repeat (first | with_reducible (first | exact blA | exact blB | refine blC _ ?_ | refine blD ?_ ?_ _ | refine blE ?_ | refine blF _ ?_ | refine blG ?_ _ | refine blH ?_ | refine blI ?_ ?_ _) | (simp only [World.size_alloc]; omega) | (simp <;> omega))) (samePols_true _ _ [R] _ ((rdPols_at (HU1.out.below HZ2.out)).below (Below.alloc (Below.refl _ _) (Nat.le_refl _) _)) (rdPols_at (HU2.out.below (Below.alloc (Below.refl _ _) (Nat.le_refl _) _))) (by simp) (fun x hx => by rw [List.mem_singleton.1 hx]; omega))).mono ?_); rintro e w' ⟨z3, rfl, hz3, rfl⟩; skip) | (go_at_call 16; (with_reducible refine (Kin.callK (W := W0) (by repeat (first | with_reducible (first | exact blA | exact blB | refine blC _ ?_ | refine blD ?_ ?_ _ | refine blE ?_ | refine blF _ ?_ | refine blG ?_ _ | refine blH ?_ | refine blI ?_ ?_ _) | (simp only [World.size_alloc]; omega) | (simp <;> omega))) (samePols_true _ _ [R] _ (rdPols_at ((HU1.out.below HZ2.out).below (Below.alloc (Below.refl _ _) (Nat.le_refl _) _))) ((rdPols_at HU2.out).below (Below.alloc (Below.refl _ _) (Nat.le_refl _) _)) (by simp) (fun x hx => by rw [List.mem_singleton.1 hx]; omega))).mono ?_); rintro e w' ⟨z3, rfl, hz3, rfl⟩; skip) | (go_at_call 19; (with_reducible refine (Kin.callK (W := W0) (by repeat (first | with_reducible (first | exact blA | exact blB | refine blC _ ?_ | refine blD ?_ ?_ _ | refine blE ?_ | refine blF _ ?_ | refine blG ?_ _ | refine blH ?_ | refine blI ?_ ?_ _) | (simp only [World.size_alloc]; omega) | (simp <;> omega))) (awake16_any _)).mono ?_); rintro e w' ⟨z4, rfl, hz4, rfl⟩; skip))
    all_goals
      go_wp2
      go_ret
      exact ⟨rfl, HBW.out.trans (Below.mono (by repeat (first | with_reducible (first | exact blA | exact blB | refine blC _ ?_ | refine blD ?_ ?_ _ | refine blE ?_ | refine blF _ ?_ | refine blG ?_ _ | refine blH ?_ | refine blI ?_ ?_ _) | (simp only [World.size_alloc]; omega) | (simp <;> omega))) HBW.out.size)⟩
set_option maxRecDepth 100000 in
theorem contourSimplifies_lifted (os : Os) (started : os.Started) (H : Type) (enc : TypeId × Value → H) :
    ReturnsInHanded {} Try.checked os 11 .any (Rows.contourSimplifiesSpec.pre6 enc Try.prog Try.f11 Rows.contourSimplifiesRow.domain false) (Rows.contourSimplifiesSpec.post enc Try.prog Try.f11 false true false false) := by
  refine returnsInHanded_of_change (C := Try.checked) own started (by kernel_rfl) Try.func11
    (ChangeSpec.witness6 (enc := enc) (C := Try.checked) false ⟨#[], #[.agg #[.slice none 0 0]], []⟩ 8 (by kernel_rfl) (by kernel_rfl) (by kernel_rfl) (by kernel_rfl)) ?_
  intro W base args ds gs before hval0 hW hcnd _
  have hval : ∀ (j : Nat) t v, Try.f11.params[j]? = some t → args[j]? = some v → Value.okWide Try.prog W .any base t v := hval0
  have hW' := hW
  obtain ⟨p, q, hA0, hV, rfl, hfz, hnd⟩ := hW
  have hA : DataW.TrodAll enc Try.prog W 0 (fun _ => true) true Try.f11.params.toList args.toList ds p := hA0
  rw [Try.params11] at hA hval
  have hAA := hA
  obtain ⟨v0, vs0, d0, ds0, p0, q0, hargs, rfl, rfl, h0, r0⟩ := trodAll_cons hA
  obtain ⟨rfl, rfl, rfl⟩ := trodAll_nil r0
  obtain rfl : args = #[v0] := by cases args; simp_all
  obtain ⟨rfl, rfl⟩ := trodVars_none hV
  have o0 := open_pol (hval 0 42 v0 rfl rfl) h0
  have hlt : ∀ x ∈ p0 ++ [], x.block < W.heap.size := fun x hx => hW'.lt x (by simpa using hx)
  refine (ctrSimplifies_walk W _ o0).mono fun e W' ⟨he, bel⟩ => ?_
  subst he
  exact ⟨_, rfl, _, _, _, [], _, [], hW', trodAll_mk1 (shut_bool Try.underlying4 _), below_trodAll laidOut bel _ _ _ _ (by
    intro t ht
    have hcl : ([42] : List TypeId).all (fun t => Try.prog.readableRec t && decide (t < Try.prog.types.size)) = true := by kernel_rfl
    have := List.all_eq_true.1 hcl t ht
    simpa using this) hlt hAA, rfl, bel.frame _, fun h => by cases h⟩
theorem contourSimplifies_heard : (Try.checked.prog.stopsHeard = true ∧ Try.checked.prog.mayEnter = true) ∧ Try.checked.prog.liftsFinal = Rows.contourSimplifiesRow.lifted := ⟨⟨by kernel_rfl, by kernel_rfl⟩, by kernel_rfl⟩
theorem contourSimplifies_calls : (Try.checked.prog.inPlace 11 = Rows.contourSimplifiesRow.inPlace ∧ Try.checked.prog.unfollowed 11 = Rows.contourSimplifiesRow.unfollowed) ∧ (Try.checked.prog.recurses 11 = Rows.contourSimplifiesRow.recurses ∧ Try.checked.prog.varsNamed 11 = Rows.contourSimplifiesRow.named) := ⟨⟨by kernel_rfl, by kernel_rfl⟩, ⟨by kernel_rfl, by kernel_rfl⟩⟩
theorem contourSimplifies_closed : joinedFacts Try.checked.prog 11 Try.f11 Rows.contourSimplifiesSpec Rows.contourSimplifiesRow = true := by
  unfold joinedFacts
  rw [contourSimplifies_calls.1.1, contourSimplifies_calls.1.2, contourSimplifies_calls.2.1, contourSimplifies_calls.2.2, contourSimplifies_heard.1.1, contourSimplifies_heard.1.2, contourSimplifies_heard.2]
  kernel_rfl
/-- ContourSimplifies: for every input the call returns true, and the arguments read behind it as before. No condition. -/
theorem contourSimplifies_holds : Rows.ContourSimplifiesSaid :=
  OpenClaim.holds_of_wide 11 Try.f11 rfl rfl rfl rfl rfl rfl rfl ⟨rfl, rfl, rfl, rfl, rfl⟩ rfl rfl rfl rfl rfl (by kernel_rfl) Try.func11 contourSimplifies_closed
    (of_decide_eq_true (by kernel_rfl)) (by unfold Func.isWrapper; rw [if_neg (of_decide_eq_false (by kernel_rfl))]; exact ⟨rfl, rfl⟩)
    (fun os started H enc _ => contourSimplifies_lifted os started H enc)

end Go.Proofs.Yteadnlodccnfcaa

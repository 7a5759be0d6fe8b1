/- PlanarCross: for any points Valid, Cross, Turn and Dist2 are the reference's, so the law returns true. -/
import Derived.Test.YtceamihampfdiaaPlanarAwake
namespace Go.Proofs.Ytceamihampfdiaa
set_option linter.unusedSimpArgs false
set_option linter.unusedVariables false
open Go.ChangeShapes Go.WideShapes Go.ChangeAt Go.RowKit Go.Joins
open Planar
attribute [local go_sem] Kin.cell Kin.frozen
set_option maxHeartbeats 1000000 in
theorem cross_walk (W : World) (v : Value) (h : IsPt v) (u : Value) (h' : IsPt u) (t : Value) (h'' : IsPt t) : Calls Try.prog 6 #[v, u, t] W fun e W' => e = .returned (.bool true) ∧ Below W.heap.size W W' := by
  obtain ⟨a, rfl, _⟩ := h
  obtain ⟨b, rfl, _⟩ := h'
  obtain ⟨c, rfl, _⟩ := h''
  go_enter Try.func6, Try.ntmps6
  go_wp2_with fail
  ((first | refine wp_region_kin _ (by kernel_rfl) (by kernel_rfl) ?_ | refine wp_region_kin0 (by kernel_rfl) (by kernel_rfl) ?_); (repeat' (first | go_big_quiet_step (first | (go_at_call 22; exact Kin.quiet _ (valid_any _ _)) | (go_at_call 23; exact Kin.quiet _ (valid_ref _ _)) | (go_at_call 24; exact Kin.quiet _ (cross_any _ _ _ _)) | (go_at_call 25; exact Kin.quiet _ (cross_ref _ _ _ _)) | (go_at_call 21; exact Kin.quiet _ (turn_any _ _ _ _)) | (go_at_call 26; exact Kin.quiet _ (turn_ref _ _ _ _)) | (go_at_call 27; exact Kin.quiet _ (dist_any _ _ _)) | (go_at_call 28; exact Kin.quiet _ (dist_ref _ _ _)) | (go_at_call 17; exact Kin.quiet _ (awake_any _))) | ((refine wpQuiet_guard rfl rfl rfl rfl (fun hg => ?_) (fun hg => ?_)) <;> (try simp only [decide_eq_true_eq, decide_eq_false_iff_not] at hg) <;> simp only [Act.put, List.setIfInBounds_toArray, List.set_cons_zero, List.set_cons_succ]))); all_goals ((with_reducible refine wpQuiet_nil ?_); rintro _ ⟨z, rfl⟩))
  go_wp2
  go_ret
  exact ⟨rfl, (by repeat (first | with_reducible exact Below.refl _ _ | with_reducible refine Kin.below _ ?_ | with_reducible refine Below.alloc ?_ ?_ _ | with_reducible refine Below.drew ?_ | with_reducible refine Kin.le _ ?_ | with_reducible refine le_alloc ?_ _ | with_reducible refine le_drew ?_ | with_reducible refine Below.setCell ?_ ?_ _ | with_reducible exact Nat.le_refl _ | (simp only [World.size_alloc]; omega) | (simp <;> omega)))⟩
set_option maxRecDepth 100000 in
theorem planarCross_lifted (os : Os) (started : os.Started) (H : Type) (enc : TypeId × Value → H) :
    ReturnsInHanded {} Try.checked os 6 .any (Rows.planarCrossSpec.pre6 enc Try.prog Try.f6 Rows.planarCrossRow.domain false) (Rows.planarCrossSpec.post enc Try.prog Try.f6 false true false false) := by
  refine returnsInHanded_of_change (C := Try.checked) own started (by kernel_rfl) Try.func6
    (ChangeSpec.witness6 (enc := enc) (C := Try.checked) false ⟨#[], #[.agg #[.int .i64 0, .int .i64 0], .agg #[.int .i64 0, .int .i64 0], .agg #[.int .i64 0, .int .i64 0]], []⟩ 8 (by kernel_rfl) (by kernel_rfl) (by kernel_rfl) (by kernel_rfl)) ?_
  intro W base args ds gs before hval0 hW hcnd _
  have hval : ∀ (j : Nat) t v, Try.f6.params[j]? = some t → args[j]? = some v → Value.okWide Try.prog W .any base t v := hval0
  have hW' := hW
  obtain ⟨p, q, hA0, hV, rfl, hfz, hnd⟩ := hW
  have hA : DataW.TrodAll enc Try.prog W 0 (fun _ => true) true Try.f6.params.toList args.toList ds p := hA0
  rw [Try.params6] at hA hval
  have hAA := hA
  obtain ⟨v0, vs0, d0, ds0, p0, q0, hargs, rfl, rfl, h0, r0⟩ := trodAll_cons hA
  obtain ⟨v1, vs1, d1, ds1, p1, q1, rfl, rfl, rfl, h1, r1⟩ := trodAll_cons r0
  obtain ⟨v2, vs2, d2, ds2, p2, q2, rfl, rfl, rfl, h2, r2⟩ := trodAll_cons r1
  obtain ⟨rfl, rfl, rfl⟩ := trodAll_nil r2
  obtain rfl : args = #[v0, v1, v2] := by cases args; simp_all
  obtain ⟨rfl, rfl⟩ := trodVars_none hV
  have o0 := open_pt (hval 0 23 v0 rfl rfl) h0
  have o1 := open_pt (hval 1 23 v1 rfl rfl) h1
  have o2 := open_pt (hval 2 23 v2 rfl rfl) h2
  have hlt : ∀ x ∈ p0 ++ (p1 ++ (p2 ++ [])), x.block < W.heap.size := fun x hx => hW'.lt x (by simpa using hx)
  refine (cross_walk W _ o0 _ o1 _ o2).mono fun e W' ⟨he, bel⟩ => ?_
  subst he
  exact ⟨_, rfl, _, _, _, [], _, [], hW', trodAll_mk1 (shut_bool Try.underlying4 _), below_trodAll laidOut bel _ _ _ _ (by
    intro t ht
    have hcl : ([23, 23, 23] : List TypeId).all (fun t => Try.prog.readableRec t && decide (t < Try.prog.types.size)) = true := by kernel_rfl
    have := List.all_eq_true.1 hcl t ht
    simpa using this) hlt hAA, rfl, bel.frame _, fun h => by cases h⟩
/-- PlanarCross: for every input the call returns true, and the arguments read behind it as before. No condition. -/
theorem planarCross_holds : Rows.PlanarCrossSaid :=
  OpenClaim.holds_of_wide 6 Try.f6 rfl rfl rfl rfl rfl rfl rfl ⟨rfl, rfl, rfl, rfl, rfl⟩ rfl rfl rfl rfl rfl (by kernel_rfl) Try.func6 (by kernel_rfl)
    (of_decide_eq_true (by kernel_rfl)) (by unfold Func.isWrapper; rw [if_neg (of_decide_eq_false (by kernel_rfl))]; exact ⟨rfl, rfl⟩)
    (fun os started H enc _ => planarCross_lifted os started H enc)

end Go.Proofs.Ytceamihampfdiaa

/- PlanarSymmetry: Cross is cyclic and alternating, Dist2 and Meet are symmetric, so the law returns true. -/
import Derived.Test.YtceamihampfdiaaPlanarAwake
import Derived.Test.YtceamihampfdiaaPlanarMath2
namespace Go.Proofs.Ytceamihampfdiaa
set_option linter.unusedSimpArgs false
set_option linter.unusedVariables false
open Go.ChangeShapes Go.WideShapes Go.ChangeAt Go.RowKit Go.Joins
open Planar
attribute [local go_sem] Kin.cell Kin.frozen
theorem cross_small (a b c : Pt) : -2251799813685248 ≤ cross a b c ∧ cross a b c ≤ 2251799813685248 := by
  unfold cross
  split
  · rename_i h
    simp only [Bool.and_eq_true] at h
    obtain ⟨⟨ha, hb⟩, hc⟩ := h
    simp only [vld, decide_eq_true_eq] at ha hb hc
    unfold crs
    have h1 := mul_bd (x := b.1 - a.1) (y := c.2 - a.2) (M := 33554432) (N := 33554432) (by omega) (by omega)
    have h2 := mul_bd (x := b.2 - a.2) (y := c.1 - a.1) (M := 33554432) (N := 33554432) (by omega) (by omega)
    omega
  · omega
theorem neg_eq (a b c : Pt) : cross b a c = IntKind.i64.wrap (- cross a b c) := by
  rw [cross_alt]
  have := cross_small a b c
  exact (IntWalk.i64_in _ (by omega)).symm
set_option maxRecDepth 100000 in
set_option maxHeartbeats 4000000 in
theorem symm_walk (W : World) (v : Value) (h : IsSeg v) (u : Value) (h' : IsSeg u) : Calls Try.prog 7 #[v, u] W fun e W' => e = .returned (.bool true) ∧ Below W.heap.size W W' := by
  obtain ⟨a, b, rfl, _⟩ := h
  obtain ⟨c, d, rfl, _⟩ := h'
  have f1 := cross_cyc a b c
  have f2 := neg_eq a b c
  have f3 := meet_comm a b c d
  have f4 := meet_rev a b c d
  have f5 : meetR d c a b = meetR a b c d := by rw [meet_comm, meet_rev]
  have f6 := dist2_symm b a
  go_enter Try.func7, Try.ntmps7
  go_wp2
  go_region
  all_goals go_wp2_with (first | (go_at_call 24; first | ((with_reducible refine (Kin.call _ (cross_any _ _ _ _)).mono ?_); rintro e w' ⟨z, rfl, rfl⟩) | ((with_reducible refine (Kin.call0 (cross_any _ _ _ _)).mono ?_); rintro e w' ⟨z, rfl, rfl⟩)) | (go_at_call 18; first | ((with_reducible refine (Kin.call _ (meet_any _ _ _ _ _)).mono ?_); rintro e w' ⟨z, rfl, rfl⟩) | ((with_reducible refine (Kin.call0 (meet_any _ _ _ _ _)).mono ?_); rintro e w' ⟨z, rfl, rfl⟩)))
  all_goals
    have hz := z.2.size
    simp only [World.size_alloc, World.size_drew] at hz
    have q0 : W.heap.size  < z.1.heap.size + 1 := by omega
    have p0 : W.heap.size  < z.1.heap.size := by omega
    have q1 : W.heap.size + 1 < z.1.heap.size + 1 := by omega
    have p1 : W.heap.size + 1 < z.1.heap.size := by omega
    have q2 : W.heap.size + 1 + 1 < z.1.heap.size + 1 := by omega
    have p2 : W.heap.size + 1 + 1 < z.1.heap.size := by omega
    have q3 : W.heap.size + 1 + 1 + 1 < z.1.heap.size + 1 := by omega
    have p3 : W.heap.size + 1 + 1 + 1 < z.1.heap.size := by omega
    have q4 : W.heap.size + 1 + 1 + 1 + 1 < z.1.heap.size + 1 := by omega
    have p4 : W.heap.size + 1 + 1 + 1 + 1 < z.1.heap.size := by omega
    clear hz
  all_goals ((first | refine wp_region_kin _ (by kernel_rfl) (by kernel_rfl) ?_ | refine wp_region_kin0 (by kernel_rfl) (by kernel_rfl) ?_); (repeat' (first | go_big_quiet_step (first | (go_at_call 24; exact Kin.quiet _ (cross_any _ _ _ _)) | (go_at_call 18; exact Kin.quiet _ (meet_any _ _ _ _ _)) | (go_at_call 27; exact Kin.quiet _ (dist_any _ _ _)) | (go_at_call 17; exact Kin.quiet _ (awake_any _))) | ((refine wpQuiet_guard rfl rfl rfl rfl (fun hg => ?_) (fun hg => ?_)) <;> (try simp only [decide_eq_true_eq, decide_eq_false_iff_not] at hg) <;> simp only [Act.put, List.setIfInBounds_toArray, List.set_cons_zero, List.set_cons_succ]))); all_goals ((with_reducible refine wpQuiet_nil ?_); rintro _ ⟨z, rfl⟩))
  all_goals go_wp2
  all_goals
    go_ret
    refine ⟨ret_bool ?_, (by repeat (first | with_reducible exact Below.refl _ _ | with_reducible refine Kin.below _ ?_ | with_reducible refine Below.alloc ?_ ?_ _ | with_reducible refine Below.drew ?_ | with_reducible refine Kin.le _ ?_ | with_reducible refine le_alloc ?_ _ | with_reducible refine le_drew ?_ | with_reducible refine Below.setCell ?_ ?_ _ | with_reducible exact Nat.le_refl _ | (simp only [World.size_alloc]; omega) | (simp <;> omega)))⟩
    first | rfl | simp [*]
set_option maxRecDepth 100000 in
theorem planarSymmetry_lifted (os : Os) (started : os.Started) (H : Type) (enc : TypeId × Value → H) :
    ReturnsInHanded {} Try.checked os 7 .any (Rows.planarSymmetrySpec.pre6 enc Try.prog Try.f7 Rows.planarSymmetryRow.domain false) (Rows.planarSymmetrySpec.post enc Try.prog Try.f7 false true false false) := by
  refine returnsInHanded_of_change (C := Try.checked) own started (by kernel_rfl) Try.func7
    (ChangeSpec.witness6 (enc := enc) (C := Try.checked) false ⟨#[], #[.agg #[.int .i64 0, .int .i64 0, .int .i64 0, .int .i64 0], .agg #[.int .i64 0, .int .i64 0, .int .i64 0, .int .i64 0]], []⟩ 8 (by kernel_rfl) (by kernel_rfl) (by kernel_rfl) (by kernel_rfl)) ?_
  intro W base args ds gs before hval0 hW hcnd _
  have hval : ∀ (j : Nat) t v, Try.f7.params[j]? = some t → args[j]? = some v → Value.okWide Try.prog W .any base t v := hval0
  have hW' := hW
  obtain ⟨p, q, hA0, hV, rfl, hfz, hnd⟩ := hW
  have hA : DataW.TrodAll enc Try.prog W 0 (fun _ => true) true Try.f7.params.toList args.toList ds p := hA0
  rw [Try.params7] at hA hval
  have hAA := hA
  obtain ⟨v0, vs0, d0, ds0, p0, q0, hargs, rfl, rfl, h0, r0⟩ := trodAll_cons hA
  obtain ⟨v1, vs1, d1, ds1, p1, q1, rfl, rfl, rfl, h1, r1⟩ := trodAll_cons r0
  obtain ⟨rfl, rfl, rfl⟩ := trodAll_nil r1
  obtain rfl : args = #[v0, v1] := by cases args; simp_all
  obtain ⟨rfl, rfl⟩ := trodVars_none hV
  have o0 := open_seg (hval 0 25 v0 rfl rfl) h0
  have o1 := open_seg (hval 1 25 v1 rfl rfl) h1
  have hlt : ∀ x ∈ p0 ++ (p1 ++ []), x.block < W.heap.size := fun x hx => hW'.lt x (by simpa using hx)
  refine (symm_walk W _ o0 _ o1).mono fun e W' ⟨he, bel⟩ => ?_
  subst he
  exact ⟨_, rfl, _, _, _, [], _, [], hW', trodAll_mk1 (shut_bool Try.underlying4 _), below_trodAll laidOut bel _ _ _ _ (by
    intro t ht
    have hcl : ([25, 25] : List TypeId).all (fun t => Try.prog.readableRec t && decide (t < Try.prog.types.size)) = true := by kernel_rfl
    have := List.all_eq_true.1 hcl t ht
    simpa using this) hlt hAA, rfl, bel.frame _, fun h => by cases h⟩
/-- PlanarSymmetry: for every input the call returns true, and the arguments read behind it as before. No condition. -/
theorem planarSymmetry_holds : Rows.PlanarSymmetrySaid :=
  OpenClaim.holds_of_wide 7 Try.f7 rfl rfl rfl rfl rfl rfl rfl ⟨rfl, rfl, rfl, rfl, rfl⟩ rfl rfl rfl rfl rfl (by kernel_rfl) Try.func7 (by kernel_rfl)
    (of_decide_eq_true (by kernel_rfl)) (by unfold Func.isWrapper; rw [if_neg (of_decide_eq_false (by kernel_rfl))]; exact ⟨rfl, rfl⟩)
    (fun os started H enc _ => planarSymmetry_lifted os started H enc)

end Go.Proofs.Ytceamihampfdiaa

/- PlanarMeets: two valid segments meet exactly if an end of one lies on the other one or each separates the other's ends, so the law returns true. -/
import Derived.Test.YtceamihampfdiaaPlanarAwake
import Derived.Test.YtceamihampfdiaaPlanarMath2
namespace Go.Proofs.Ytceamihampfdiaa
set_option linter.unusedSimpArgs false
set_option linter.unusedVariables false
open Go.ChangeShapes Go.WideShapes Go.ChangeAt Go.RowKit Go.Joins
open Planar
attribute [local go_sem] Kin.cell Kin.frozen
set_option maxHeartbeats 400000 in
theorem lawvalid_any (a b : Pt) (w : World) :
    Calls Try.prog 20 #[sv a b] w fun e w' => e = .returned (.bool (vld a && vld b)) ∧ Below w.heap.size w w' := by
  go_enter Try.func20, Try.ntmps20
  go_wp2_with (go_at_call 22; first | ((with_reducible refine (Kin.call _ (valid_any _ _)).mono ?_); rintro e w' ⟨z, rfl, rfl⟩) | ((with_reducible refine (Kin.call0 (valid_any _ _)).mono ?_); rintro e w' ⟨z, rfl, rfl⟩))
  all_goals
    go_ret
    exact ⟨ret_bool (by simp [*]), (by repeat (first | with_reducible exact Below.refl _ _ | with_reducible refine Kin.below _ ?_ | with_reducible refine Below.alloc ?_ ?_ _ | with_reducible refine Below.drew ?_ | with_reducible refine Kin.le _ ?_ | with_reducible refine le_alloc ?_ _ | with_reducible refine le_drew ?_ | with_reducible refine Below.setCell ?_ ?_ _ | with_reducible exact Nat.le_refl _ | (simp only [World.size_alloc]; omega) | (simp <;> omega)))⟩
def MeetsIff (a b c d : Pt) : Prop := 0 < meetR a b c d ↔ (on a c d = true ∨ on b c d = true ∨ on c a b = true ∨ on d a b = true) ∨ (turn a b c * turn a b d < 0 ∧ turn c d a * turn c d b < 0)
theorem meetsIff {a b c d : Pt} (ha : vld a = true) (hb : vld b = true) (hc : vld c = true) (hd : vld d = true) : MeetsIff a b c d := by
  have h := meets_eq ha hb hc hd
  rw [Bool.eq_iff_iff] at h
  simp only [Bool.or_eq_true, Bool.and_eq_true, decide_eq_true_eq, or_assoc] at h
  unfold MeetsIff
  simp only [or_assoc]
  exact h
section
variable {a b c d : Pt} (hq : MeetsIff a b c d)
include hq
theorem meets_c1 (h : on a c d = true ∨ on b c d = true ∨ on c a b = true ∨ on d a b = true) (h0 : meetR a b c d ≤ 0) : False := by
  have := hq.2 (.inl h); omega
theorem meets_c2 (n1 : ¬ on a c d = true) (n2 : ¬ on b c d = true) (n3 : ¬ on c a b = true) (n4 : ¬ on d a b = true) (h : ¬ (0 < meetR a b c d ↔ turn c d a * turn c d b < 0)) (t : turn a b c * turn a b d < 0) : False := by
  refine h ⟨fun x => ?_, fun x => hq.2 (.inr ⟨t, x⟩)⟩
  rcases hq.1 x with (h1 | h1 | h1 | h1) | h1
  · exact absurd h1 n1
  · exact absurd h1 n2
  · exact absurd h1 n3
  · exact absurd h1 n4
  · exact h1.2
theorem meets_c3 (n1 : ¬ on a c d = true) (n2 : ¬ on b c d = true) (n3 : ¬ on c a b = true) (n4 : ¬ on d a b = true) (t : 0 ≤ turn a b c * turn a b d) (h : 0 < meetR a b c d) : False := by
  rcases hq.1 h with (h1 | h1 | h1 | h1) | h1
  · exact absurd h1 n1
  · exact absurd h1 n2
  · exact absurd h1 n3
  · exact absurd h1 n4
  · omega
end
set_option maxRecDepth 100000 in
set_option maxHeartbeats 4000000 in
theorem meets_good (a b c d : Pt) (w : World) (ha : vld a = true) (hb : vld b = true) (hc : vld c = true) (hd : vld d = true) : Calls Try.prog 5 #[sv a b, sv c d] w fun e w' => e = .returned (.bool true) ∧ Below w.heap.size w w' := by
  have hm1 := turn_mul a b c a b d
  have hm2 := turn_mul c d a c d b
  have v1 : (vld a && vld b) = true := by simp [ha, hb]
  have v2 : (vld c && vld d) = true := by simp [hc, hd]
  have Hq : Hid (MeetsIff a b c d) := meetsIff ha hb hc hd
  go_enter Try.func5, Try.ntmps5
  go_wp2_with (first | (go_at_call 20; first | ((with_reducible refine (Kin.call _ (lawvalid_any _ _ _)).mono ?_); rintro e w' ⟨z, rfl, rfl⟩) | ((with_reducible refine (Kin.call0 (lawvalid_any _ _ _)).mono ?_); rintro e w' ⟨z, rfl, rfl⟩)) | (go_at_call 15; first | ((with_reducible refine (Kin.call _ (on_any _ _ _ _)).mono ?_); rintro e w' ⟨z, rfl, rfl⟩) | ((with_reducible refine (Kin.call0 (on_any _ _ _ _)).mono ?_); rintro e w' ⟨z, rfl, rfl⟩)))
  all_goals ((first | refine wp_region_kin _ (by kernel_rfl) (by kernel_rfl) ?_ | refine wp_region_kin0 (by kernel_rfl) (by kernel_rfl) ?_); (repeat' (first | go_big_quiet_step ((go_at_call 21; exact Kin.quiet _ (turn_any _ _ _ _))) | ((refine wpQuiet_guard rfl rfl rfl rfl (fun hg => ?_) (fun hg => ?_)) <;> (try simp only [decide_eq_true_eq, decide_eq_false_iff_not] at hg) <;> simp only [Act.put, List.setIfInBounds_toArray, List.set_cons_zero, List.set_cons_succ]))); all_goals ((with_reducible refine wpQuiet_nil ?_); rintro _ ⟨z, rfl⟩))
  all_goals go_wp2_with (first | (go_at_call 18; first | ((with_reducible refine (Kin.call _ (meet_any _ _ _ _ _)).mono ?_); rintro e w' ⟨z, rfl, rfl⟩) | ((with_reducible refine (Kin.call0 (meet_any _ _ _ _ _)).mono ?_); rintro e w' ⟨z, rfl, rfl⟩)) | (go_at_call 17; first | ((with_reducible refine (Kin.call _ (awake_any _)).mono ?_); rintro e w' ⟨z, rfl, rfl⟩) | ((with_reducible refine (Kin.call0 (awake_any _)).mono ?_); rintro e w' ⟨z, rfl, rfl⟩)))
  all_goals first
    | (go_ret; exact ⟨rfl, (by repeat (first | with_reducible exact Below.refl _ _ | with_reducible refine Kin.below _ ?_ | with_reducible refine Below.alloc ?_ ?_ _ | with_reducible refine Below.drew ?_ | with_reducible refine Kin.le _ ?_ | with_reducible refine le_alloc ?_ _ | with_reducible refine le_drew ?_ | with_reducible refine Below.setCell ?_ ?_ _ | with_reducible exact Nat.le_refl _ | (simp only [World.size_alloc]; omega) | (simp <;> omega)))⟩)
    | (go_ret; refine ⟨ret_bool ?_, (by repeat (first | with_reducible exact Below.refl _ _ | with_reducible refine Kin.below _ ?_ | with_reducible refine Below.alloc ?_ ?_ _ | with_reducible refine Below.drew ?_ | with_reducible refine Kin.le _ ?_ | with_reducible refine le_alloc ?_ _ | with_reducible refine le_drew ?_ | with_reducible refine Below.setCell ?_ ?_ _ | with_reducible exact Nat.le_refl _ | (simp only [World.size_alloc]; omega) | (simp <;> omega)))⟩; simp [*]; done)
    | (exfalso; refine meets_c1 Hq.out ?_ ?_
       · first | exact .inl (by assumption) | exact .inr (.inl (by assumption)) | exact .inr (.inr (.inl (by assumption))) | exact .inr (.inr (.inr (by assumption)))
       · assumption)
    | (exfalso; refine meets_c2 Hq.out ?_ ?_ ?_ ?_ ?_ ?_ <;> assumption)
    | (exfalso; refine meets_c3 Hq.out ?_ ?_ ?_ ?_ ?_ ?_ <;> assumption)
set_option maxRecDepth 100000 in
set_option maxHeartbeats 4000000 in
theorem meets_bad1 (a b c d : Pt) (w : World) (h : (vld a && vld b) = false) : Calls Try.prog 5 #[sv a b, sv c d] w fun e w' => e = .returned (.bool true) ∧ Below w.heap.size w w' := by
  have hz : meetR a b c d = 0 := meetR_bad (by simp [h])
  go_enter Try.func5, Try.ntmps5
  go_wp2_with (first | (go_at_call 20; first | ((with_reducible refine (Kin.call _ (lawvalid_any _ _ _)).mono ?_); rintro e w' ⟨z, rfl, rfl⟩) | ((with_reducible refine (Kin.call0 (lawvalid_any _ _ _)).mono ?_); rintro e w' ⟨z, rfl, rfl⟩)) | (go_at_call 18; first | ((with_reducible refine (Kin.call _ (meet_any _ _ _ _ _)).mono ?_); rintro e w' ⟨z, rfl, rfl⟩) | ((with_reducible refine (Kin.call0 (meet_any _ _ _ _ _)).mono ?_); rintro e w' ⟨z, rfl, rfl⟩)) | (go_at_call 17; first | ((with_reducible refine (Kin.call _ (awake_any _)).mono ?_); rintro e w' ⟨z, rfl, rfl⟩) | ((with_reducible refine (Kin.call0 (awake_any _)).mono ?_); rintro e w' ⟨z, rfl, rfl⟩)))
  go_ret
  exact ⟨rfl, (by repeat (first | with_reducible exact Below.refl _ _ | with_reducible refine Kin.below _ ?_ | with_reducible refine Below.alloc ?_ ?_ _ | with_reducible refine Below.drew ?_ | with_reducible refine Kin.le _ ?_ | with_reducible refine le_alloc ?_ _ | with_reducible refine le_drew ?_ | with_reducible refine Below.setCell ?_ ?_ _ | with_reducible exact Nat.le_refl _ | (simp only [World.size_alloc]; omega) | (simp <;> omega)))⟩
set_option maxRecDepth 100000 in
set_option maxHeartbeats 4000000 in
theorem meets_bad2 (a b c d : Pt) (w : World) (h0 : (vld a && vld b) = true) (h : (vld c && vld d) = false) : Calls Try.prog 5 #[sv a b, sv c d] w fun e w' => e = .returned (.bool true) ∧ Below w.heap.size w w' := by
  have hz : meetR a b c d = 0 := meetR_bad (by rw [Bool.and_assoc, h]; simp)
  go_enter Try.func5, Try.ntmps5
  go_wp2_with (first | (go_at_call 20; first | ((with_reducible refine (Kin.call _ (lawvalid_any _ _ _)).mono ?_); rintro e w' ⟨z, rfl, rfl⟩) | ((with_reducible refine (Kin.call0 (lawvalid_any _ _ _)).mono ?_); rintro e w' ⟨z, rfl, rfl⟩)) | (go_at_call 18; first | ((with_reducible refine (Kin.call _ (meet_any _ _ _ _ _)).mono ?_); rintro e w' ⟨z, rfl, rfl⟩) | ((with_reducible refine (Kin.call0 (meet_any _ _ _ _ _)).mono ?_); rintro e w' ⟨z, rfl, rfl⟩)) | (go_at_call 17; first | ((with_reducible refine (Kin.call _ (awake_any _)).mono ?_); rintro e w' ⟨z, rfl, rfl⟩) | ((with_reducible refine (Kin.call0 (awake_any _)).mono ?_); rintro e w' ⟨z, rfl, rfl⟩)))
  go_ret
  exact ⟨rfl, (by repeat (first | with_reducible exact Below.refl _ _ | with_reducible refine Kin.below _ ?_ | with_reducible refine Below.alloc ?_ ?_ _ | with_reducible refine Below.drew ?_ | with_reducible refine Kin.le _ ?_ | with_reducible refine le_alloc ?_ _ | with_reducible refine le_drew ?_ | with_reducible refine Below.setCell ?_ ?_ _ | with_reducible exact Nat.le_refl _ | (simp only [World.size_alloc]; omega) | (simp <;> omega)))⟩
theorem meets_walk (W : World) (v : Value) (h : IsSeg v) (u : Value) (h' : IsSeg u) : Calls Try.prog 5 #[v, u] W fun e W' => e = .returned (.bool true) ∧ Below W.heap.size W W' := by
  obtain ⟨a, b, rfl, _⟩ := h
  obtain ⟨c, d, rfl, _⟩ := h'
  cases h1 : (vld a && vld b)
  · exact meets_bad1 a b c d W h1
  · cases h2 : (vld c && vld d)
    · exact meets_bad2 a b c d W h1 h2
    · simp only [Bool.and_eq_true] at h1 h2
      exact meets_good a b c d W h1.1 h1.2 h2.1 h2.2
set_option maxRecDepth 100000 in
theorem planarMeets_lifted (os : Os) (started : os.Started) (H : Type) (enc : TypeId × Value → H) :
    ReturnsInHanded {} Try.checked os 5 .any (Rows.planarMeetsSpec.pre6 enc Try.prog Try.f5 Rows.planarMeetsRow.domain false) (Rows.planarMeetsSpec.post enc Try.prog Try.f5 false true false false) := by
  refine returnsInHanded_of_change (C := Try.checked) own started (by kernel_rfl) Try.func5
    (ChangeSpec.witness6 (enc := enc) (C := Try.checked) false ⟨#[], #[.agg #[.int .i64 0, .int .i64 0, .int .i64 0, .int .i64 0], .agg #[.int .i64 0, .int .i64 0, .int .i64 0, .int .i64 0]], []⟩ 8 (by kernel_rfl) (by kernel_rfl) (by kernel_rfl) (by kernel_rfl)) ?_
  intro W base args ds gs before hval0 hW hcnd _
  have hval : ∀ (j : Nat) t v, Try.f5.params[j]? = some t → args[j]? = some v → Value.okWide Try.prog W .any base t v := hval0
  have hW' := hW
  obtain ⟨p, q, hA0, hV, rfl, hfz, hnd⟩ := hW
  have hA : DataW.TrodAll enc Try.prog W 0 (fun _ => true) true Try.f5.params.toList args.toList ds p := hA0
  rw [Try.params5] at hA hval
  have hAA := hA
  obtain ⟨v0, vs0, d0, ds0, p0, q0, hargs, rfl, rfl, h0, r0⟩ := trodAll_cons hA
  obtain ⟨v1, vs1, d1, ds1, p1, q1, rfl, rfl, rfl, h1, r1⟩ := trodAll_cons r0
  obtain ⟨rfl, rfl, rfl⟩ := trodAll_nil r1
  obtain rfl : args = #[v0, v1] := by cases args; simp_all
  obtain ⟨rfl, rfl⟩ := trodVars_none hV
  have o0 := open_seg (hval 0 25 v0 rfl rfl) h0
  have o1 := open_seg (hval 1 25 v1 rfl rfl) h1
  have hlt : ∀ x ∈ p0 ++ (p1 ++ []), x.block < W.heap.size := fun x hx => hW'.lt x (by simpa using hx)
  refine (meets_walk W _ o0 _ o1).mono fun e W' ⟨he, bel⟩ => ?_
  subst he
  exact ⟨_, rfl, _, _, _, [], _, [], hW', trodAll_mk1 (shut_bool Try.underlying4 _), below_trodAll laidOut bel _ _ _ _ (by
    intro t ht
    have hcl : ([25, 25] : List TypeId).all (fun t => Try.prog.readableRec t && decide (t < Try.prog.types.size)) = true := by kernel_rfl
    have := List.all_eq_true.1 hcl t ht
    simpa using this) hlt hAA, rfl, bel.frame _, fun h => by cases h⟩
/-- PlanarMeets: for every input the call returns true, and the arguments read behind it as before. No condition. -/
theorem planarMeets_holds : Rows.PlanarMeetsSaid :=
  OpenClaim.holds_of_wide 5 Try.f5 rfl rfl rfl rfl rfl rfl rfl ⟨rfl, rfl, rfl, rfl, rfl⟩ rfl rfl rfl rfl rfl (by kernel_rfl) Try.func5 (by kernel_rfl)
    (of_decide_eq_true (by kernel_rfl)) (by unfold Func.isWrapper; rw [if_neg (of_decide_eq_false (by kernel_rfl))]; exact ⟨rfl, rfl⟩)
    (fun os started H enc _ => planarMeets_lifted os started H enc)

end Go.Proofs.Ytceamihampfdiaa

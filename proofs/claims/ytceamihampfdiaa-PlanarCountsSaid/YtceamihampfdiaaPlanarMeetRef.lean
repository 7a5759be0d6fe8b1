/- What the reference's Meet returns, for all points. -/
import Derived.Test.YtceamihampfdiaaPlanarEnds
namespace Go.Proofs.Ytceamihampfdiaa
set_option linter.unusedSimpArgs false
set_option linter.unusedVariables false
open Go.RowKit Planar
attribute [local go_sem] Kin.cell Kin.frozen
theorem turn_cases (a b c : Pt) : turn a b c = 1 ∨ turn a b c = -1 ∨ turn a b c = 0 := by
  unfold turn sgn; split
  · exact .inl rfl
  · split
    · exact .inr (.inl rfl)
    · exact .inr (.inr rfl)
theorem turn_wrap (a b c d e f : Pt) : IntKind.i64.wrap (turn a b c * turn d e f) = turn a b c * turn d e f := by
  rcases turn_cases a b c with h | h | h <;> rcases turn_cases d e f with h' | h' | h' <;> rw [h, h'] <;> rfl
theorem meetR_v {a b c d : Pt} (h : vld a = true) (h1 : vld b = true) (h2 : vld c = true) (h3 : vld d = true) : meetR a b c d = if 0 < (ends a b c d).length then ((ends a b c d).length : Int)
  else if turn a b c * turn a b d < 0 ∧ turn c d a * turn c d b < 0 then 1 else 0 := by
  unfold meetR
  rw [if_neg (by simp [h, h1, h2, h3])]
theorem meetR_n {a b c d : Pt} (h : vld a = false ∨ vld b = false ∨ vld c = false ∨ vld d = false) : meetR a b c d = 0 := by
  unfold meetR
  rw [if_pos]
  rcases h with h | h | h | h <;> simp [h]
theorem ends4 (a b c d : Pt) : (ends a b c d).length ≤ 4 := by
  have := endsTo_len a b c d 4
  have e : endsTo a b c d 4 = ends a b c d := rfl
  rw [e] at this; exact this
set_option maxRecDepth 100000 in
set_option maxHeartbeats 800000 in
theorem meet_ref_bad (a b c d : Pt) (w : World) (h : vld a = false ∨ vld b = false ∨ vld c = false ∨ vld d = false) :
    Calls Try.prog 19 #[sv a b, sv c d] w fun e w' => e = .returned (.int .i64 (meetR a b c d)) ∧ Below w.heap.size w w' := by
  rw [meetR_n h]
  have H := h
  clear h
  cases ha : vld a
  · clear H
    go_enter Try.func19, Try.ntmps19
    go_wp2_with (go_at_call 23; first | ((with_reducible refine (Kin.call _ (valid_ref _ _)).mono ?_); rintro e w' ⟨z, rfl, rfl⟩) | ((with_reducible refine (Kin.call0 (valid_ref _ _)).mono ?_); rintro e w' ⟨z, rfl, rfl⟩))
    go_ret
    exact ⟨rfl, (by repeat (first | with_reducible exact Below.refl _ _ | with_reducible refine Kin.below _ ?_ | with_reducible refine Below.alloc ?_ ?_ _ | with_reducible refine Below.drew ?_ | with_reducible refine Kin.le _ ?_ | with_reducible refine le_alloc ?_ _ | with_reducible refine le_drew ?_ | with_reducible refine Below.setCell ?_ ?_ _ | with_reducible exact Nat.le_refl _ | (simp only [World.size_alloc]; omega) | (simp <;> omega)))⟩
  cases hb : vld b
  · clear H
    go_enter Try.func19, Try.ntmps19
    go_wp2_with (go_at_call 23; first | ((with_reducible refine (Kin.call _ (valid_ref _ _)).mono ?_); rintro e w' ⟨z, rfl, rfl⟩) | ((with_reducible refine (Kin.call0 (valid_ref _ _)).mono ?_); rintro e w' ⟨z, rfl, rfl⟩))
    go_ret
    exact ⟨rfl, (by repeat (first | with_reducible exact Below.refl _ _ | with_reducible refine Kin.below _ ?_ | with_reducible refine Below.alloc ?_ ?_ _ | with_reducible refine Below.drew ?_ | with_reducible refine Kin.le _ ?_ | with_reducible refine le_alloc ?_ _ | with_reducible refine le_drew ?_ | with_reducible refine Below.setCell ?_ ?_ _ | with_reducible exact Nat.le_refl _ | (simp only [World.size_alloc]; omega) | (simp <;> omega)))⟩
  cases hc : vld c
  · clear H
    go_enter Try.func19, Try.ntmps19
    go_wp2_with (go_at_call 23; first | ((with_reducible refine (Kin.call _ (valid_ref _ _)).mono ?_); rintro e w' ⟨z, rfl, rfl⟩) | ((with_reducible refine (Kin.call0 (valid_ref _ _)).mono ?_); rintro e w' ⟨z, rfl, rfl⟩))
    go_ret
    exact ⟨rfl, (by repeat (first | with_reducible exact Below.refl _ _ | with_reducible refine Kin.below _ ?_ | with_reducible refine Below.alloc ?_ ?_ _ | with_reducible refine Below.drew ?_ | with_reducible refine Kin.le _ ?_ | with_reducible refine le_alloc ?_ _ | with_reducible refine le_drew ?_ | with_reducible refine Below.setCell ?_ ?_ _ | with_reducible exact Nat.le_refl _ | (simp only [World.size_alloc]; omega) | (simp <;> omega)))⟩
  have hd : vld d = false := by simpa [ha, hb, hc] using H
  clear H
  go_enter Try.func19, Try.ntmps19
  go_wp2_with (go_at_call 23; first | ((with_reducible refine (Kin.call _ (valid_ref _ _)).mono ?_); rintro e w' ⟨z, rfl, rfl⟩) | ((with_reducible refine (Kin.call0 (valid_ref _ _)).mono ?_); rintro e w' ⟨z, rfl, rfl⟩))
  go_ret
  exact ⟨rfl, (by repeat (first | with_reducible exact Below.refl _ _ | with_reducible refine Kin.below _ ?_ | with_reducible refine Below.alloc ?_ ?_ _ | with_reducible refine Below.drew ?_ | with_reducible refine Kin.le _ ?_ | with_reducible refine le_alloc ?_ _ | with_reducible refine le_drew ?_ | with_reducible refine Below.setCell ?_ ?_ _ | with_reducible exact Nat.le_refl _ | (simp only [World.size_alloc]; omega) | (simp <;> omega)))⟩
theorem meetR_1 {a b c d : Pt} (h : vld a = true) (h1 : vld b = true) (h2 : vld c = true) (h3 : vld d = true) (hn : 0 < (ends a b c d).length) : ((ends a b c d).length : Int) = meetR a b c d := by
  rw [meetR_v h h1 h2 h3, if_pos (by omega)]
theorem meetR_2 {a b c d : Pt} (h : vld a = true) (h1 : vld b = true) (h2 : vld c = true) (h3 : vld d = true) (hn : ¬ 0 < (ends a b c d).length) (ht : turn a b c * turn a b d < 0) (hs : turn c d a * turn c d b < 0) : 1 = meetR a b c d := by
  rw [meetR_v h h1 h2 h3, if_neg (by omega), if_pos ⟨ht, hs⟩]
theorem meetR_3 {a b c d : Pt} (h : vld a = true) (h1 : vld b = true) (h2 : vld c = true) (h3 : vld d = true) (hn : ¬ 0 < (ends a b c d).length) (ht : 0 ≤ turn a b c * turn a b d) : 0 = meetR a b c d := by
  rw [meetR_v h h1 h2 h3, if_neg (by omega), if_neg (fun x => absurd x.1 (by omega))]
theorem meetR_4 {a b c d : Pt} (h : vld a = true) (h1 : vld b = true) (h2 : vld c = true) (h3 : vld d = true) (hn : ¬ 0 < (ends a b c d).length) (hs : 0 ≤ turn c d a * turn c d b) : 0 = meetR a b c d := by
  rw [meetR_v h h1 h2 h3, if_neg (by omega), if_neg (fun x => absurd x.2 (by omega))]
set_option maxRecDepth 100000 in
set_option maxHeartbeats 4000000 in
theorem meet_ref_good (a b c d : Pt) (w : World) (ha : vld a = true) (hb : vld b = true) (hc : vld c = true) (hd : vld d = true) :
    Calls Try.prog 19 #[sv a b, sv c d] w fun e w' => e = .returned (.int .i64 (meetR a b c d)) ∧ Below w.heap.size w w' := by
  have h4 := ends4 a b c d
  have hm1 := turn_mul a b c a b d
  have hm2 := turn_mul c d a c d b
  go_enter Try.func19, Try.ntmps19
  go_wp2_with (first | (go_at_call 23; first | ((with_reducible refine (Kin.call _ (valid_ref _ _)).mono ?_); rintro e w' ⟨z, rfl, rfl⟩) | ((with_reducible refine (Kin.call0 (valid_ref _ _)).mono ?_); rintro e w' ⟨z, rfl, rfl⟩)) | (go_at_call 39; first | ((with_reducible refine (Kin.call _ (ends_any _ _ _ _ _)).mono ?_); rintro e w' ⟨z, ⟨v, rfl, hv⟩, rfl⟩; obtain ⟨A, cap, rfl, hcE, _⟩ := hv.open_) | ((with_reducible refine (Kin.call0 (ends_any _ _ _ _ _)).mono ?_); rintro e w' ⟨z, ⟨v, rfl, hv⟩, rfl⟩; obtain ⟨A, cap, rfl, hcE, _⟩ := hv.open_)))
  all_goals first
    | (go_ret; refine ⟨ret_int ?_, (by repeat (first | with_reducible exact Below.refl _ _ | with_reducible refine Kin.below _ ?_ | with_reducible refine Below.alloc ?_ ?_ _ | with_reducible refine Below.drew ?_ | with_reducible refine Kin.le _ ?_ | with_reducible refine le_alloc ?_ _ | with_reducible refine le_drew ?_ | with_reducible refine Below.setCell ?_ ?_ _ | with_reducible exact Nat.le_refl _ | (simp only [World.size_alloc]; omega) | (simp <;> omega)))⟩; refine meetR_1 ha hb hc hd ?_; assumption)
    | (((first | refine wp_region_kin _ (by kernel_rfl) (by kernel_rfl) ?_ | refine wp_region_kin0 (by kernel_rfl) (by kernel_rfl) ?_); (repeat' (first | go_big_quiet_step ((go_at_call 26; exact Kin.quiet _ (turn_ref _ _ _ _))) | ((refine wpQuiet_guard rfl rfl rfl rfl (fun hg => ?_) (fun hg => ?_)) <;> (try simp only [decide_eq_true_eq, decide_eq_false_iff_not] at hg) <;> simp only [Act.put, List.setIfInBounds_toArray, List.set_cons_zero, List.set_cons_succ]))); all_goals ((with_reducible refine wpQuiet_nil ?_); rintro _ ⟨z, rfl⟩))
       all_goals go_wp2
       all_goals go_ret
       all_goals refine ⟨ret_int ?_, (by repeat (first | with_reducible exact Below.refl _ _ | with_reducible refine Kin.below _ ?_ | with_reducible refine Below.alloc ?_ ?_ _ | with_reducible refine Below.drew ?_ | with_reducible refine Kin.le _ ?_ | with_reducible refine le_alloc ?_ _ | with_reducible refine le_drew ?_ | with_reducible refine Below.setCell ?_ ?_ _ | with_reducible exact Nat.le_refl _ | (simp only [World.size_alloc]; omega) | (simp <;> omega)))⟩
       all_goals first
         | (refine meetR_2 ha hb hc hd ?_ ?_ ?_ <;> assumption)
         | (refine meetR_3 ha hb hc hd ?_ ?_ <;> assumption)
         | (refine meetR_4 ha hb hc hd ?_ ?_ <;> assumption))
theorem meet_ref (a b c d : Pt) (w : World) :
    Calls Try.prog 19 #[sv a b, sv c d] w fun e w' => e = .returned (.int .i64 (meetR a b c d)) ∧ Below w.heap.size w w' := by
  by_cases h : vld a = true ∧ vld b = true ∧ vld c = true ∧ vld d = true
  · exact meet_ref_good a b c d w h.1 h.2.1 h.2.2.1 h.2.2.2
  · refine meet_ref_bad a b c d w ?_
    cases ha : vld a
    · exact .inl rfl
    cases hb : vld b
    · exact .inr (.inl rfl)
    cases hc : vld c
    · exact .inr (.inr (.inl rfl))
    cases hd : vld d
    · exact .inr (.inr (.inr rfl))
    exact absurd ⟨ha, hb, hc, hd⟩ h
end Go.Proofs.Ytceamihampfdiaa

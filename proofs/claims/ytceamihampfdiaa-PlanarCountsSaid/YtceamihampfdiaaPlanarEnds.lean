/- What the reference's ends and Meet return, for all points. -/
import Derived.Test.YtceamihampfdiaaPlanarMeet2
import Derived.Test.YtceamihampfdiaaPlanarArea
import Derived.Test.YtceamihampfdiaaPlanarMath2
import Derived.Test.YtceamihampfdiaaOwn
namespace Go.Proofs.Ytceamihampfdiaa
set_option linter.unusedSimpArgs false
set_option linter.unusedVariables false
open Go.RowKit Planar
attribute [local go_sem] Kin.cell Kin.frozen
theorem infoPt : (Try.prog.info? 23).map (fun i => (i.zero, i.size, i.bytes)) = some (some (.agg #[.int .i64 0, .int .i64 0]), 2, 16) := by kernel_rfl
/-- the list of the ends so far -/
def endsTo (a b c d : Pt) (k : Nat) : List Pt := ([a, b, c, d].take k).foldl (add1 a b c d) []
theorem endsTo_succ {a b c d p : Pt} {k : Nat} (h : [a, b, c, d][k]? = some p) : endsTo a b c d (k + 1) = add1 a b c d (endsTo a b c d k) p := by
  unfold endsTo
  rw [List.take_add_one, h, List.foldl_append]
  rfl
theorem add1_len (a b c d : Pt) (out : List Pt) (p : Pt) : (add1 a b c d out p).length ≤ out.length + 1 := by
  unfold add1; split <;> simp
theorem endsTo_len (a b c d : Pt) (k : Nat) : (endsTo a b c d k).length ≤ k := by
  unfold endsTo
  have : ∀ (l : List Pt) (out : List Pt), (l.foldl (add1 a b c d) out).length ≤ out.length + l.length := by
    intro l
    induction l with
    | nil => intro out; simp
    | cons p l ih => intro out; have := ih (add1 a b c d out p); have := add1_len a b c d out p; simp only [List.foldl_cons, List.length_cons]; omega
  have := this (([a, b, c, d].take k)) []
  simp only [List.length_nil, Nat.zero_add] at this
  exact Nat.le_trans this (by rw [List.length_take]; exact Nat.min_le_left _ _)
theorem cont_succ {E : List Pt} {m : Nat} {q p : Pt} (h : E[m]? = some q) : (E.take (m + 1)).contains p = ((E.take m).contains p || eq2 q.1 q.2 p.1 p.2) := by
  rw [List.take_add_one, h]
  rw [Bool.eq_iff_iff]
  simp only [List.contains_iff_mem, List.mem_append, Option.toList_some, List.mem_singleton, Bool.or_eq_true, eq2_iff]
  constructor <;> (rintro (h | h); exact .inl h; exact .inr h.symm)
def seenTo (E : List Pt) (m : Nat) (p : Pt) : Bool := (E.take m).contains p
theorem seen_succ {E : List Pt} {m : Nat} {q p : Pt} (h : E[m]? = some q) : seenTo E (m + 1) p = (seenTo E m p || eq2 q.1 q.2 p.1 p.2) := cont_succ h
theorem seen_all {E : List Pt} {p : Pt} : seenTo E E.length p = E.contains p := by simp [seenTo]
theorem add1_no {a b c d : Pt} {E : List Pt} {p : Pt} (h : seenTo E E.length p = true ∨ on p a b = false ∨ on p c d = false) : add1 a b c d E p = E := by
  rw [seen_all] at h
  unfold add1
  rw [if_neg]
  simp only [Bool.and_eq_true, Bool.not_eq_true', not_and, Bool.not_eq_true]
  rcases h with h | h | h
  · intro h1; rw [h] at h1; simp at h1
  · intro h1; rw [h] at h1; simp at h1
  · intro _; exact h
theorem add1_yes {a b c d : Pt} {E : List Pt} {p : Pt} (h : seenTo E E.length p = false) (h1 : on p a b = true) (h2 : on p c d = true) : add1 a b c d E p = E ++ [p] := by
  rw [seen_all] at h
  unfold add1
  rw [if_pos]
  simp only [h, h1, h2, Bool.not_false, Bool.and_self]
theorem add1_yes' {a b c d : Pt} {E : List Pt} {p : Pt} (h : (!seenTo E E.length p) = true) (h1 : on p a b = true) (h2 : on p c d = true) : add1 a b c d E p = E ++ [p] :=
  add1_yes (by simpa using h) h1 h2
theorem add1_no' {a b c d : Pt} {E : List Pt} {p : Pt} (h : (!seenTo E E.length p) = false) : add1 a b c d E p = E := add1_no (.inl (by simpa using h))
set_option maxRecDepth 100000 in
set_option maxHeartbeats 4000000 in
theorem ends_any (a b c d : Pt) (w : World) :
    Calls Try.prog 39 #[sv a b, sv c d] w fun e w' => (∃ v, e = .returned v ∧ Rd 2 encPt w' v (ends a b c d)) ∧ Below w.heap.size w w' := by
  obtain ⟨i0, hi, hz0, hz1, hz2⟩ := info_parts infoPt
  have heq := run_eq2
  go_enter Try.func39, Try.ntmps39
  go_wp2
  obtain ⟨W1, hW1⟩ : ∃ W1 : World, W1 = ((w.alloc (.cells #[.int .i64 a.1, .int .i64 a.2, .int .i64 b.1, .int .i64 b.2] 25)).alloc (.cells #[.int .i64 c.1, .int .i64 c.2, .int .i64 d.1, .int .i64 d.2] 25)).alloc (.cells #[.int .i64 a.1, .int .i64 a.2, .int .i64 b.1, .int .i64 b.2, .int .i64 c.1, .int .i64 c.2, .int .i64 d.1, .int .i64 d.2] 23) := ⟨_, rfl⟩
  have s0 : w.heap.size < W1.heap.size := by rw [hW1]; simp only [World.size_alloc]; omega
  have s1 : w.heap.size + 1 < W1.heap.size := by rw [hW1]; simp only [World.size_alloc]; omega
  have s2 : w.heap.size + 1 + 1 < W1.heap.size := by rw [hW1]; simp only [World.size_alloc]; omega
  have hbw : Below w.heap.size w W1 := by rw [hW1]; exact (by repeat (first | with_reducible exact Below.refl _ _ | with_reducible refine Kin.below _ ?_ | with_reducible refine Below.alloc ?_ ?_ _ | with_reducible refine Below.drew ?_ | with_reducible refine Kin.le _ ?_ | with_reducible refine le_alloc ?_ _ | with_reducible refine le_drew ?_ | with_reducible refine Below.setCell ?_ ?_ _ | with_reducible exact Nat.le_refl _ | (simp only [World.size_alloc]; omega) | (simp <;> omega)))
  have b0 : W1.cell? ⟨w.heap.size, 0, none⟩ = some (.int .i64 a.1) := by rw [hW1]; simp [go_sem]
  have b1 : W1.cell? ⟨w.heap.size, 1, none⟩ = some (.int .i64 a.2) := by rw [hW1]; simp [go_sem]
  have b2 : W1.cell? ⟨w.heap.size, 2, none⟩ = some (.int .i64 b.1) := by rw [hW1]; simp [go_sem]
  have b3 : W1.cell? ⟨w.heap.size, 3, none⟩ = some (.int .i64 b.2) := by rw [hW1]; simp [go_sem]
  have e0 : W1.cell? ⟨w.heap.size + 1, 0, none⟩ = some (.int .i64 c.1) := by rw [hW1]; simp [go_sem]
  have e1 : W1.cell? ⟨w.heap.size + 1, 1, none⟩ = some (.int .i64 c.2) := by rw [hW1]; simp [go_sem]
  have e2 : W1.cell? ⟨w.heap.size + 1, 2, none⟩ = some (.int .i64 d.1) := by rw [hW1]; simp [go_sem]
  have e3 : W1.cell? ⟨w.heap.size + 1, 3, none⟩ = some (.int .i64 d.2) := by rw [hW1]; simp [go_sem]
  have Hl : Hid (∀ i p, [a, b, c, d][i]? = some p → W1.cell? ⟨w.heap.size + 1 + 1, i * 2, none⟩ = some (.int .i64 p.1) ∧ W1.cell? ⟨w.heap.size + 1 + 1, i * 2 + 1, none⟩ = some (.int .i64 p.2)) := by
    show ∀ i p, _
    intro i p hp
    rw [hW1]
    match i, hp with
    | 0, hp => simp at hp; subst hp; simp [go_sem]
    | 1, hp => simp at hp; subst hp; simp [go_sem]
    | 2, hp => simp at hp; subst hp; simp [go_sem]
    | 3, hp => simp at hp; subst hp; simp [go_sem]
    | i + 4, hp => simp at hp
  go_loopw [6, 7] (fun out i wr => ∃ k : Nat, k ≤ 4 ∧ i = .int .i64 k ∧ ∃ z : Kin W1, z.1 = wr ∧ wr.ownsRow W1.heap.size 23 2 out (endsTo a b c d k).length ((endsTo a b c d k).flatMap encPt)) (fun _ i _ => 4 - (intOf i).toNat)
  case atStart => exact ⟨0, Nat.zero_le _, rfl, ⟨W1, Below.refl _ _⟩, hW1, World.ownsRow_nil _ _ _ _⟩
  case round =>
    clear hW1
    obtain ⟨k, hk, rfl, z, rfl, hown⟩ := hrel
    obtain ⟨E, hE⟩ : ∃ E, E = endsTo a b c d k := ⟨_, rfl⟩
    rw [← hE] at hown
    have HE : Hid (E = endsTo a b c d k) := hE
    have hEl : E.length ≤ 4 := by rw [hE]; have := endsTo_len a b c d k; omega
    clear hE
    have hrd := Rd.own encPt_len hown
    obtain ⟨A, cap, rfl, hcE, ho⟩ := hrd.open_
    have HO : Hid (∀ (i : Nat) (x : Pt), E[i]? = some x → ∃ b off, A = some ⟨b, off, none⟩ ∧ b < z.1.heap.size ∧
      ∀ (i : Nat) (x : Pt), E[i]? = some x → ∀ (j : Nat) (u : Value), (encPt x)[j]? = some u → z.1.cell? ⟨b, off + i * 2 + j, none⟩ = some u) := ho
    have HW : Hid (z.1.ownsRow W1.heap.size 23 2 (.slice A E.length cap) E.length (E.flatMap encPt)) := hown
    clear ho hown hrd
    have t0 := z.lt s0
    have t1 := z.lt s1
    have t2 := z.lt s2
    by_cases hlt : k < 4
    · obtain ⟨p, hp⟩ : ∃ p, [a, b, c, d][k]? = some p := ⟨_, List.getElem?_eq_getElem hlt⟩
      obtain ⟨c0, c1⟩ := Hl.out k p hp
      have HP : Hid ([a, b, c, d][k]? = some p) := hp
      clear hp
      have i1 : (0 : Int) ≤ (k : Int) := by omega
      have i2 : (k : Int) < 4 := by omega
      go_wp2
      go_loopw [8, 9] (fun kn j wr' => ∃ m : Nat, m ≤ E.length ∧ j = .int .i64 m ∧ kn = .bool (seenTo E m p) ∧ ∃ y : Kin z.1, y.1 = wr') (fun _ j _ => E.length - (intOf j).toNat)
      case atStart => exact ⟨0, Nat.zero_le _, rfl, rfl, ⟨z.1, Below.refl _ _⟩, rfl⟩
      case round =>
        obtain ⟨m, hm, rfl, rfl, y, rfl⟩ := hrel
        by_cases hml : m < E.length
        · obtain ⟨q, hq⟩ : ∃ q, E[m]? = some q := ⟨_, List.getElem?_eq_getElem hml⟩
          obtain ⟨g, off, rfl, hg, hcell⟩ := HO.out m q hq
          have q0 : z.1.cell? ⟨g, off + m * 2, none⟩ = some (.int .i64 q.1) := hcell m q hq 0 _ rfl
          have q1 : z.1.cell? ⟨g, off + m * 2 + 1, none⟩ = some (.int .i64 q.2) := hcell m q hq 1 _ rfl
          have HQ : Hid (E[m]? = some q) := hq
          clear hq hcell HO
          have j1 : (0 : Int) ≤ (m : Int) := by omega
          have j2 : (m : Int) < (E.length : Int) := by omega
          go_wp2
          ((first | refine wp_region_kin _ (by kernel_rfl) (by kernel_rfl) ?_ | refine wp_region_kin0 (by kernel_rfl) (by kernel_rfl) ?_); (repeat' (first | go_big_quiet_step (fail) | ((refine wpQuiet_guard rfl rfl rfl rfl (fun hg => ?_) (fun hg => ?_)) <;> (try simp only [decide_eq_true_eq, decide_eq_false_iff_not] at hg) <;> simp only [Act.put, List.setIfInBounds_toArray, List.set_cons_zero, List.set_cons_succ]))); all_goals ((with_reducible refine wpQuiet_nil ?_); rintro _ ⟨z, rfl⟩))
          all_goals go_wp2
          all_goals
            go_roundw
            case rel =>
              refine ⟨m + 1, by omega, by go_num, ?_, ⟨_, (by repeat (first | with_reducible exact Below.refl _ _ | with_reducible refine Kin.below _ ?_ | with_reducible refine Below.alloc ?_ ?_ _ | with_reducible refine Below.drew ?_ | with_reducible refine Kin.le _ ?_ | with_reducible refine le_alloc ?_ _ | with_reducible refine le_drew ?_ | with_reducible refine Below.setCell ?_ ?_ _ | with_reducible exact Nat.le_refl _ | (simp only [World.size_alloc]; omega) | (simp <;> omega)))⟩, rfl⟩
              rw [seen_succ HQ.out]
              simp [*]
            case measure => simp [intOf]; omega
        · obtain rfl : m = E.length := by omega
          clear HO
          go_wp2
          ((first | refine wp_region_kin _ (by kernel_rfl) (by kernel_rfl) ?_ | refine wp_region_kin0 (by kernel_rfl) (by kernel_rfl) ?_); (repeat' (first | go_big_quiet_step ((go_at_call 16; exact Kin.quiet _ (on_ref _ _ _ _))) | ((refine wpQuiet_guard rfl rfl rfl rfl (fun hg => ?_) (fun hg => ?_)) <;> (try simp only [decide_eq_true_eq, decide_eq_false_iff_not] at hg) <;> simp only [Act.put, List.setIfInBounds_toArray, List.set_cons_zero, List.set_cons_succ]))); all_goals ((with_reducible refine wpQuiet_nil ?_); rintro _ ⟨z, rfl⟩))
          all_goals go_wp2_with (at_builtin; have hx := (own_below HW.out z.2).alloc (.cells #[.int .i64 p.1, .int .i64 p.2] 23); refine wpList_append_own _ rfl _ _ 35 rfl W1.heap.size 23 i0 (.agg #[.int .i64 0,.int .i64 0]) 2 16 Try.underlying35 hi hz0 hz1 hz2 rfl (by decide) _ _ _ rfl hx ⟨_, 0, none⟩ 1 1 [.int .i64 p.1, .int .i64 p.2] rfl rfl (cell2_new _ _ _ _) (one2 _ _) (by unfold maxLen; omega) (by omega) (by repeat (first | with_reducible exact Nat.le_refl _ | with_reducible refine le_alloc ?_ _ | with_reducible refine le_drew ?_ | with_reducible refine Kin.le _ ?_ | assumption | omega | (simp only [World.size_alloc]; omega))) ?_; intro v' w1 hown' hgrow hnil; (obtain ⟨y, rfl⟩ : ∃ y : Kin W1, y.1 = w1 := ⟨⟨w1, own_grown (base := W1.heap.size) (by repeat (first | with_reducible exact Below.refl _ _ | with_reducible refine Kin.below _ ?_ | with_reducible refine Below.alloc ?_ ?_ _ | with_reducible refine Below.drew ?_ | with_reducible refine Kin.le _ ?_ | with_reducible refine le_alloc ?_ _ | with_reducible refine le_drew ?_ | with_reducible refine Below.setCell ?_ ?_ _ | with_reducible exact Nat.le_refl _ | (simp only [World.size_alloc]; omega) | (simp <;> omega))) hx hgrow (Nat.le_refl _) (by repeat (first | with_reducible exact Nat.le_refl _ | with_reducible refine le_alloc ?_ _ | with_reducible refine le_drew ?_ | with_reducible refine Kin.le _ ?_ | assumption | omega | (simp only [World.size_alloc]; omega)))⟩, rfl⟩); clear hgrow hnil hx)
          all_goals
            go_roundw
            case rel =>
              first
              | (refine ⟨k + 1, by omega, by go_num, y, rfl, ?_⟩
                 rw [endsTo_succ HP.out, ← HE.out, add1_yes' (by assumption) (by assumption) (by assumption), List.length_append, List.flatMap_append]
                 exact hown')
              | (refine ⟨k + 1, by omega, by go_num, ⟨_, (by repeat (first | with_reducible exact Below.refl _ _ | with_reducible refine Kin.below _ ?_ | with_reducible refine Below.alloc ?_ ?_ _ | with_reducible refine Below.drew ?_ | with_reducible refine Kin.le _ ?_ | with_reducible refine le_alloc ?_ _ | with_reducible refine le_drew ?_ | with_reducible refine Below.setCell ?_ ?_ _ | with_reducible exact Nat.le_refl _ | (simp only [World.size_alloc]; omega) | (simp <;> omega)))⟩, rfl, ?_⟩
                 have hno : add1 a b c d E p = E := by
                   first
                   | (refine add1_no' ?_; assumption)
                   | (refine add1_no (.inr (.inl ?_)); assumption)
                   | (refine add1_no (.inr (.inr ?_)); assumption)
                 rw [endsTo_succ HP.out, ← HE.out, hno]
                 exact own_below HW.out z.2)
            case measure => simp [intOf]; omega
    · go_wp2
      go_ret
      have hk4 : k = 4 := by omega
      refine ⟨⟨_, rfl, ?_⟩, Kin.below z hbw⟩
      have h4 : ends a b c d = E := by rw [HE.out, hk4]; rfl
      rw [h4]
      exact Rd.own encPt_len HW.out
end Go.Proofs.Ytceamihampfdiaa

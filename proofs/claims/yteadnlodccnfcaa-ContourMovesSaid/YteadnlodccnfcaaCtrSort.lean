/- The order of points, and sorting by it. -/
import Derived.Test.YteadnlodccnfcaaSortOwn
import Derived.Test.YteadnlodccnfcaaShelf
import Derived.Test.YteadnlodccnfcaaCtrOrd
namespace Go.Proofs.Yteadnlodccnfcaa
set_option linter.unusedSimpArgs false
set_option linter.unusedVariables false
set_option maxRecDepth 100000
open Go.Shelf Go.RowKit Go.Lib Go.Sort Go.Proofs Planar
attribute [local go_sem] Kin.cell Kin.frozen Kin.lt0 Kin.lt1 Kin.lt2 Kin.lt3
def cfG (x y : Pt) : Int := if ltX x y then -1 else if x = y then 0 else 1
theorem ltG (x y : Pt) : ltOf cfG x y = decide (ltX x y) := by
  unfold ltOf cfG
  rw [decide_eq_decide]
  by_cases h1 : ltX x y
  · rw [if_pos h1]; simp [h1]
  · rw [if_neg h1]
    by_cases h2 : x = y
    · rw [if_pos h2]; simp [h1]
    · rw [if_neg h2]; simp [h1]
theorem swoG : SWO (ltOf cfG) where
  irrefl x := by rw [ltG, decide_eq_false_iff_not]; unfold ltX; omega
  trans x y z h1 h2 := by rw [ltG, decide_eq_true_eq] at *; unfold ltX at *; omega
  ntrans x y z h1 h2 := by rw [ltG, decide_eq_false_iff_not] at *; unfold ltX at *; omega
set_option maxHeartbeats 1000000 in
theorem points_cmp (x y : Pt) (W : World) : Calls Try.prog 36 #[.agg (encPt x).toArray, .agg (encPt y).toArray] W fun e w' => e = .returned (.int .i64 (cfG x y)) ∧ ∃ q os', w' = grow (W.drewN q) os' := by
  show Calls Try.prog 36 #[.agg #[.int .i64 x.1, .int .i64 x.2], .agg #[.int .i64 y.1, .int .i64 y.2]] W fun e w' => e = .returned (.int .i64 (cfG x y)) ∧ ∃ q os', w' = grow (W.drewN q) os'
  by_cases h1 : x.1 < y.1
  · have hc : cfG x y = -1 := by unfold cfG; rw [if_pos (.inl h1)]
    rw [hc]
    go_enter Try.func36, Try.ntmps36
    go_wp2
    go_ret
    exact ⟨rfl, 0, _, by rw [alloc_eq_grow, alloc_eq_grow, grow_grow]; rfl⟩
  · by_cases h2 : x.1 = y.1
    · by_cases h3 : x.2 < y.2
      · have hc : cfG x y = -1 := by unfold cfG; rw [if_pos (.inr ⟨h2, h3⟩)]
        rw [hc]
        go_enter Try.func36, Try.ntmps36
        go_wp2
        go_ret
        exact ⟨rfl, 0, _, by rw [alloc_eq_grow, alloc_eq_grow, grow_grow]; rfl⟩
      · by_cases h4 : x = y
        · have hc : cfG x y = 0 := by unfold cfG; rw [if_neg (by unfold ltX; omega), if_pos h4]
          rw [hc]
          subst h4
          have he := eqP_run (eqP_iff.2 (rfl : x = x))
          clear h2 hc
          go_enter Try.func36, Try.ntmps36
          go_wp2
          go_ret
          exact ⟨rfl, 0, _, by rw [alloc_eq_grow, alloc_eq_grow, grow_grow]; rfl⟩
        · have hc : cfG x y = 1 := by unfold cfG; rw [if_neg (by unfold ltX; omega), if_neg h4]
          have he := eqP_run (eqP_ne h4)
          rw [h2] at he
          rw [hc]
          go_enter Try.func36, Try.ntmps36
          go_wp2
          go_ret
          exact ⟨rfl, 0, _, by rw [alloc_eq_grow, alloc_eq_grow, grow_grow]; rfl⟩
    · have h4 : x ≠ y := fun e => h2 (by rw [e])
      have hc : cfG x y = 1 := by unfold cfG; rw [if_neg (by unfold ltX; omega), if_neg h4]
      have he := eqP_run (eqP_ne h4)
      rw [hc]
      go_enter Try.func36, Try.ntmps36
      go_wp2
      go_ret
      exact ⟨rfl, 0, _, by rw [alloc_eq_grow, alloc_eq_grow, grow_grow]; rfl⟩
theorem sort_ptsG (base : Nat) (w : World) (v : Value) (xs : List Pt) (hown : w.ownsRow base 36 2 v xs.length (xs.flatMap encPt)) (hlen : xs.length < 4611686018427387904) (hB : base ≤ w.heap.size) :
    Calls Try.prog 35 #[v, .func (.func 36) #[] #[]] w fun e w' => e = .returned (.tuple #[]) ∧ ∃ ys : List Pt, ys.Perm xs ∧ ys.Pairwise (fun a b => ¬ ltX b a) ∧
      w'.ownsRow base 36 2 v ys.length (ys.flatMap encPt) ∧ w.grownBy w' v.ownBlock := by
  have eg : ∀ args w, (callFunc 36 args).run Try.prog w = .ok (.enter 36 args) w := enters_of Try.func36 (by kernel_rfl) rfl
  have h := sort_own (enc := encPt) (k := 2) Try.sortPt Try.isAgg36 Try.sizeOf36 (by decide) (fun _ => rfl) (fun x u hu => by simp [encPt] at hu; rcases hu with rfl | rfl <;> rfl) cfG swoG 36 #[] eg (fun W x y => points_cmp x y W) base _ w v xs hown (by simpa using hlen)
  refine Calls.mono h fun e w' ⟨he, ys, hp, hs, ho, hg⟩ => ⟨he, ys, hp, ?_, ho, hg⟩
  refine hs.imp fun {a b} hab => ?_
  rw [ltG] at hab
  simpa using hab
end Go.Proofs.Yteadnlodccnfcaa

/- What Area2 of the planar layer and of its reference return, for all lists. -/
import Derived.Test.YteadnlodccnfcaaPlanarWalks
import Derived.RegionTactic
import Derived.BigRegion
namespace Go.Proofs.Yteadnlodccnfcaa
set_option linter.unusedSimpArgs false
set_option linter.unusedVariables false
open Go.RowKit Planar
attribute [local go_sem] Kin.cell Kin.frozen
def encPt (p : Pt) : List Value := [.int .i64 p.1, .int .i64 p.2]
theorem encPt_len (p : Pt) : (encPt p).length = 2 := rfl
def ptAt (l : List Pt) (i : Nat) : Pt := (l[i]?).getD (0, 0)
def areaTerm (l : List Pt) (i : Nat) : Int := (ptAt l i).1 * (ptAt l ((i + 1) % l.length)).2 - (ptAt l i).2 * (ptAt l ((i + 1) % l.length)).1
def areaTo (l : List Pt) : Nat → Int
  | 0 => 0
  | k + 1 => areaTo l k + areaTerm l k
def allVld (l : List Pt) : Bool := l.all vld
def area2 (l : List Pt) : Int := if 8192 < l.length then 0 else if allVld l then areaTo l l.length else 0
theorem ptAt_some {l : List Pt} {i : Nat} {p : Pt} (h : l[i]? = some p) : ptAt l i = p := by simp [ptAt, h]
theorem allVld_at {l : List Pt} (h : allVld l = true) {i : Nat} {p : Pt} (hp : l[i]? = some p) : vld p = true :=
  List.all_eq_true.1 h p (List.mem_of_getElem? hp)
theorem allVld_no {l : List Pt} {i : Nat} {p : Pt} (hp : l[i]? = some p) (h : vld p = false) : allVld l = false := by
  rw [Bool.eq_false_iff]; intro ha; rw [allVld_at ha hp] at h; cases h
theorem allVld_of {l : List Pt} (h : ∀ i p, i < l.length → l[i]? = some p → vld p = true) : allVld l = true := by
  refine List.all_eq_true.2 fun p hp => ?_
  obtain ⟨i, hi, rfl⟩ := List.getElem_of_mem hp
  exact h i _ hi (List.getElem?_eq_getElem hi)
theorem term_bd {l : List Pt} (h : allVld l = true) {i : Nat} {p q : Pt} (hp : l[i]? = some p) (hq : l[(i + 1) % l.length]? = some q) :
    areaTerm l i = p.1 * q.2 - p.2 * q.1 ∧ (-281474976710656 ≤ p.1 * q.2 ∧ p.1 * q.2 ≤ 281474976710656) ∧ (-281474976710656 ≤ p.2 * q.1 ∧ p.2 * q.1 ≤ 281474976710656) := by
  have h1 := vld_bd (allVld_at h hp)
  have h2 := vld_bd (allVld_at h hq)
  refine ⟨by rw [areaTerm, ptAt_some hp, ptAt_some hq], ?_, ?_⟩
  · exact mul_bd (M := 16777216) (N := 16777216) (by omega) (by omega)
  · exact mul_bd (M := 16777216) (N := 16777216) (by omega) (by omega)
theorem areaTo_bd {l : List Pt} (h : allVld l = true) : ∀ k : Nat, k ≤ l.length → -(562949953421312 * (k : Int)) ≤ areaTo l k ∧ areaTo l k ≤ 562949953421312 * (k : Int)
  | 0, _ => by simp [areaTo]
  | k + 1, hk => by
    have ih := areaTo_bd h k (by omega)
    have e1 : l[k]? = some l[k] := List.getElem?_eq_getElem (by omega)
    have e2 : l[(k + 1) % l.length]? = some (l[(k + 1) % l.length]'(Nat.mod_lt _ (by omega))) := List.getElem?_eq_getElem _
    have := term_bd h e1 e2
    simp only [areaTo]
    omega
theorem vld_step {l : List Pt} {k : Nat} {p : Pt} (h : ∀ i p, i < k → l[i]? = some p → vld p = true) (hp : l[k]? = some p) (hv : vld p = true) : ∀ i p, i < k + 1 → l[i]? = some p → vld p = true := by
  intro i q hi hq
  by_cases e : i = k
  · subst e; rw [hp] at hq; injection hq with hq; rw [← hq]; exact hv
  · exact h i q (by omega) hq
/-- a round of the program's sum, and of the reference's -/
theorem area_round {l : List Pt} {k : Nat} {p q : Pt} {x : Int} (hn : l.length ≤ 8192) (hp : l[k]? = some p) (hq : l[(k + 1) % l.length]? = some q) (hx : allVld l = true → x = areaTo l k) :
    (allVld l = true → wrap64 (x + wrap64 (wrap64 (p.1 * q.2) - wrap64 (p.2 * q.1))) = areaTo l (k + 1)) ∧
    (allVld l = true → wrap64 (wrap64 (x + wrap64 (p.1 * q.2)) - wrap64 (p.2 * q.1)) = areaTo l (k + 1)) := by
  have hk : k < l.length := (List.getElem?_eq_some_iff.1 hp).1
  constructor
  all_goals
    intro h
    have t := term_bd h hp hq
    have b := areaTo_bd h k (by omega)
    rw [hx h]
    simp only [areaTo, t.1]
    generalize p.1 * q.2 = X at *
    generalize p.2 * q.1 = Y at *
    generalize areaTo l k = S at *
    rw [IntWalk.wrap64_in X (by omega), IntWalk.wrap64_in Y (by omega)]
  · rw [IntWalk.wrap64_in (X - Y) (by omega), IntWalk.wrap64_in _ (by omega)]
  · rw [IntWalk.wrap64_in (S + X) (by omega), IntWalk.wrap64_in _ (by omega)]; omega
end Go.Proofs.Yteadnlodccnfcaa

/- Squares that lie in one another: plain laws. -/
import Derived.Test.YteadnlodccnfcaaCtrSome
namespace Go.Proofs.Yteadnlodccnfcaa
set_option linter.unusedSimpArgs false
set_option linter.unusedVariables false
set_option maxRecDepth 100000
open Planar
def sqL (K : Nat → Nat) (j : Nat) : List (List Pt) := (List.range j).map fun i : Nat => sqP (i : Int) (50 - (i : Int)) (K i)
theorem sqL_succ (K : Nat → Nat) (j : Nat) : sqL K (j + 1) = sqL K j ++ [sqP (j : Int) (50 - (j : Int)) (K j)] := by simp [sqL, List.range_succ]
theorem sqL_len (K : Nat → Nat) (j : Nat) : (sqL K j).length = j := by simp [sqL]
theorem sqL_get {K : Nat → Nat} {j i : Nat} (h : i < j) : (sqL K j).getD i [] = sqP (i : Int) (50 - (i : Int)) (K i) := by
  rw [List.getD_eq_getElem?_getD]
  unfold sqL
  rw [List.getElem?_map, List.getElem?_range h]; rfl
theorem sq_min : ∀ i : Nat, i < 20 → ∀ k, k < 4 → minP (sqP (i : Int) (50 - i) k) = ((i : Int), (i : Int)) := of_decide_eq_true (by kernel_rfl)
theorem sq_in : ∀ j : Nat, j < 20 → ∀ k, k < 4 → ∀ i : Nat, i < 20 → conP (segsO (sqP (j : Int) (50 - j) k)) ((i : Int), (i : Int)) = decide (j < i) := of_decide_eq_true (by kernel_rfl)
theorem sq_ok : ∀ j : Nat, j < 20 → ∀ k, k < 4 → (sqP (j : Int) (50 - j) k).all vld = true := of_decide_eq_true (by kernel_rfl)
theorem sqP_len (a b : Int) (k : Nat) : (sqP a b k).length = 4 := by simp [sqP]
theorem sq_sum (K : Nat → Nat) (j : Nat) : sumN (sqL K j) = 4 * j := by
  induction j with
  | zero => rfl
  | succ j ih =>
    rw [sqL_succ]
    unfold sumN at *
    rw [List.map_append, List.sum_append, ih]
    simp [sqP_len]
    omega
theorem sq_E {K : Nat → Nat} (hK : ∀ i, K i < 4) {n : Nat} (hn : n ≤ 20) : nestE (sqL K n) = 0 := by
  unfold nestE
  rw [sq_sum, sqL_len, if_neg (by omega), if_pos]
  unfold validL
  rw [List.all_eq_true]
  intro o ho
  unfold sqL at ho
  obtain ⟨i, hi, rfl⟩ := List.mem_map.1 ho
  have := List.mem_range.1 hi
  exact sq_ok i (by omega) (K i) (hK i)
theorem cnt_lt (i n : Nat) (h : i ≤ n) : (List.range n).countP (fun k => decide (k < i)) = i := by
  induction n with
  | zero => have : i = 0 := by omega
            subst this; rfl
  | succ n ih =>
    rw [List.range_succ, List.countP_append]
    by_cases e : i ≤ n
    · rw [ih e]; simp; omega
    · have : i = n + 1 := by omega
      subst this
      have : (List.range n).countP (fun k => decide (k < n + 1)) = n := by
        have h1 : (List.range n).countP (fun k => decide (k < n + 1)) = (List.range n).length := List.countP_eq_length.2 fun k hk => by have := List.mem_range.1 hk; simp; omega
        rw [h1, List.length_range]
      rw [this]; simp
theorem sq_at {K : Nat → Nat} (hK : ∀ i, K i < 4) {n i : Nat} (hn : n ≤ 20) (hi : i < n) : nestAt (sqL K n) i = i := by
  unfold nestAt
  rw [sqL_get hi, if_neg (fun e => by have := sqP_len (i : Int) (50 - (i : Int)) (K i); rw [e] at this; cases this), sq_min i (by omega) (K i) (hK i), sqL_len]
  congr 1
  unfold cntN
  rw [← cnt_lt i n (by omega)]
  rw [cnt_lt i n (by omega)]
  have : (List.range n).countP (fun k => decide (k ≠ i) && conP (segsO ((sqL K n).getD k [])) ((i : Int), (i : Int))) = (List.range n).countP (fun k => decide (k < i)) := by
    apply List.countP_congr
    intro k hk
    have hk := List.mem_range.1 hk
    rw [sqL_get hk, sq_in k (by omega) (K k) (hK k) i (by omega)]
    by_cases e : k < i
    · simp [e]; omega
    · simp [e]
  rw [this, cnt_lt i n (by omega)]
theorem sq_L {K : Nat → Nat} (hK : ∀ i, K i < 4) {n : Nat} (hn : n ≤ 20) : nestL (sqL K n) = (List.range n).map (fun i : Nat => (i : Int)) := by
  unfold nestL
  rw [if_pos (sq_E hK hn), sqL_len]
  unfold nestTo
  apply List.map_congr_left
  intro i hi
  exact sq_at hK hn (List.mem_range.1 hi)
end Go.Proofs.Yteadnlodccnfcaa

/- What the small functions of the raster layer and of its chapter return. -/
import Derived.Lib.MinMax
import Derived.Test.YtneelidbgigehaaGreatPolKit
namespace Go.Proofs.YtneelidbgigehaaGreat
set_option linter.unusedSimpArgs false
set_option linter.unusedVariables false
set_option maxRecDepth 100000
open Go.RowKit Runs Reg Ras
attribute [local go_sem] Kin.cell Kin.frozen Kin.lt0 Kin.lt1 Kin.lt2 Kin.lt3 run_mkf
theorem okcI {x : Int} : okC x = true ↔ -4096 ≤ x ∧ x < 4096 := by simp [okC]
theorem half_go {p : Int} (h : 0 ≤ p) : Int.tdiv p 2 = p / 2 := Int.tdiv_eq_ediv_of_nonneg h
theorem ctr_in {n p : Int} (h : -4096 ≤ n ∧ n < 4096) (hp : 32 ≤ p ∧ p ≤ 1024) : -4194304 ≤ n * p ∧ n * p ≤ 4194304 ∧ 16 ≤ p / 2 ∧ p / 2 ≤ 512 := by
  have := mul_bd (x := n) (y := p) (M := 4096) (N := 1024) (by omega) (by omega)
  omega
theorem rcenter_any (n p : Int) (w : World) (h : -4096 ≤ n ∧ n < 4096) (hp : 32 ≤ p ∧ p ≤ 1024) :
    Calls Tryz.prog 47 #[.int .i64 n, .int .i64 p] w fun e w' => e = .returned (.int .i64 (ctr n p)) ∧ Below w.heap.size w w' := by
  have hc := ctr_in h hp
  have h2 := half_go (p := p) (by omega)
  have e1 : IntKind.i64.wrap (n * p) = n * p := IntWalk.i64_in _ (by omega)
  have e2 : IntKind.i64.wrap (n * p + p / 2) = n * p + p / 2 := IntWalk.i64_in _ (by omega)
  go_enter Tryz.func47, Tryz.ntmps47
  go_wp2
  go_ret
  exact ⟨rfl, (by repeat (first | with_reducible (first | exact blA | exact blB | refine blC _ ?_ | refine blD ?_ ?_ _ | refine blE ?_ | refine blF _ ?_ | refine blG ?_ _ | refine blH ?_ | refine blI ?_ ?_ _) | (simp only [World.size_alloc]; omega) | (simp <;> omega)))⟩
theorem blk_new2 (w : World) (o : Obj) (t : TypeId) (cs : Array Value) : Blk ((w.alloc o).alloc (.cells cs t)) (w.heap.size + 1) t cs := by
  have := Blk.new (w.alloc o) t cs
  rwa [World.size_alloc] at this
/-- the center of a cell, or the point 0 -/
def cenOk (x y p : Int) : Bool := okC x && okC y && decide (32 ≤ p ∧ p ≤ 1024)
def cenR (x y p : Int) : P2 := if cenOk x y p then (ctr x p, ctr y p) else (0, 0)
theorem cenOk_iff {x y p : Int} : cenOk x y p = true ↔ (-4096 ≤ x ∧ x < 4096) ∧ (-4096 ≤ y ∧ y < 4096) ∧ 32 ≤ p ∧ p ≤ 1024 := by simp [cenOk, okC, and_assoc]
/-- floor -/
theorem floor_any (a b : Int) (w : World) (hb : 0 < b ∧ b ≤ 4611686018427387904) (ha : -4611686018427387904 ≤ a ∧ a ≤ 4611686018427387904) :
    Calls Tryz.prog 46 #[.int .i64 a, .int .i64 b] w fun e w' => e = .returned (.tuple #[.int .i64 (a / b), .int .i64 0]) ∧ Below w.heap.size w w' := by
  have hf := floor_go (a := a) hb.1
  have b0 : ¬ b = 0 := by omega
  have b1 : ¬ b < 0 := by omega
  have a0 : ¬ a = -9223372036854775808 := by omega
  have hq : -4611686018427387904 ≤ a.tdiv b ∧ a.tdiv b ≤ 4611686018427387904 := by
    by_cases h : 0 ≤ a
    · have h1 := Int.tdiv_nonneg h (by omega : 0 ≤ b)
      have h2 := Int.tdiv_le_self (a := a) b h
      omega
    · have h1 := Int.tdiv_nonneg (show 0 ≤ -a by omega) (by omega : 0 ≤ b)
      have h2 := Int.tdiv_le_self (a := -a) b (by omega)
      rw [Int.neg_tdiv] at h1 h2
      omega
  have hr : -4611686018427387904 ≤ a.tmod b ∧ a.tmod b ≤ 4611686018427387904 := by
    by_cases h : 0 ≤ a
    · have h1 := Int.tmod_nonneg b h
      have h2 := Int.tmod_lt_of_pos a (by omega : 0 < b)
      omega
    · have h1 := Int.tmod_nonneg b (show 0 ≤ -a by omega)
      have h2 := Int.tmod_lt_of_pos (-a) (by omega : 0 < b)
      rw [Int.neg_tmod] at h1 h2
      omega
  generalize hQ : a.tdiv b = Q at *
  generalize hR : a.tmod b = R at *
  have e1 : IntKind.i64.wrap Q = Q := IntWalk.i64_in _ (by omega)
  have e2 : IntKind.i64.wrap R = R := IntWalk.i64_in _ (by omega)
  have e3 : IntKind.i64.wrap (Q - 1) = Q - 1 := IntWalk.i64_in _ (by omega)
  rw [← hf]
  by_cases hc : R = 0
  · have hcc : (R != 0) = false := by simpa using hc
    rw [if_neg (by omega)]
    go_enter Tryz.func46, Tryz.ntmps46
    go_wp2
    go_ret2
    exact ⟨rfl, (by repeat (first | with_reducible (first | exact blA | exact blB | refine blC _ ?_ | refine blD ?_ ?_ _ | refine blE ?_ | refine blF _ ?_ | refine blG ?_ _ | refine blH ?_ | refine blI ?_ ?_ _) | (simp only [World.size_alloc]; omega) | (simp <;> omega)))⟩
  · have hcc : (R != 0) = true := by simpa using hc
    by_cases hs : a < 0
    · rw [if_pos ⟨hc, hs⟩]
      go_enter Tryz.func46, Tryz.ntmps46
      go_wp2
      go_ret2
      exact ⟨rfl, (by repeat (first | with_reducible (first | exact blA | exact blB | refine blC _ ?_ | refine blD ?_ ?_ _ | refine blE ?_ | refine blF _ ?_ | refine blG ?_ _ | refine blH ?_ | refine blI ?_ ?_ _) | (simp only [World.size_alloc]; omega) | (simp <;> omega)))⟩
    · rw [if_neg (by omega)]
      go_enter Tryz.func46, Tryz.ntmps46
      go_wp2
      go_ret2
      exact ⟨rfl, (by repeat (first | with_reducible (first | exact blA | exact blB | refine blC _ ?_ | refine blD ?_ ?_ _ | refine blE ?_ | refine blF _ ?_ | refine blG ?_ _ | refine blH ?_ | refine blI ?_ ?_ _) | (simp only [World.size_alloc]; omega) | (simp <;> omega)))⟩
end Go.Proofs.YtneelidbgigehaaGreat

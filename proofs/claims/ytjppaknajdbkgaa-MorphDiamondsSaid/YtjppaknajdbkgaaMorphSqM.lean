/- One or all cells of a square, or of a diamond, as a loop asks for them. -/
import Derived.Test.YtjppaknajdbkgaaMorphMathA
namespace Go.Proofs.Ytjppaknajdbkgaa
set_option linter.unusedSimpArgs false
set_option linter.unusedVariables false
open Runs Reg
def someX (r : List Reg.Row) (x y d : Int) (n : Nat) : Bool := (List.range n).any fun i => memC r (x + (-d + (i : Int))) y
def allX (r : List Reg.Row) (x y d : Int) (n : Nat) : Bool := (List.range n).all fun i => memC r (x + (-d + (i : Int))) y
theorem someX_succ (r : List Reg.Row) (x y d : Int) (n : Nat) : someX r x y d (n + 1) = (someX r x y d n || memC r (x + (-d + (n : Int))) y) := by simp [someX, List.range_succ]
theorem allX_succ (r : List Reg.Row) (x y d : Int) (n : Nat) : allX r x y d (n + 1) = (allX r x y d n && memC r (x + (-d + (n : Int))) y) := by simp [allX, List.range_succ]
theorem someX_iff {r : List Reg.Row} {x y d : Int} : someX r x y d (2 * d + 1).toNat = true ↔ ∃ i : Int, -d ≤ i ∧ i ≤ d ∧ memC r (x + i) y = true := by
  unfold someX
  simp only [List.any_eq_true, List.mem_range]
  constructor
  · rintro ⟨i, hi, hm⟩
    exact ⟨_, by omega, by omega, hm⟩
  · rintro ⟨i, h1, h2, hm⟩
    refine ⟨(i + d).toNat, by omega, ?_⟩
    rw [show -d + (((i + d).toNat : Nat) : Int) = i by omega]
    exact hm
theorem allX_iff {r : List Reg.Row} {x y d : Int} : allX r x y d (2 * d + 1).toNat = true ↔ ∀ i : Int, -d ≤ i → i ≤ d → memC r (x + i) y = true := by
  unfold allX
  simp only [List.all_eq_true, List.mem_range]
  constructor
  · intro h i h1 h2
    have := h (i + d).toNat (by omega)
    rwa [show -d + (((i + d).toNat : Nat) : Int) = i by omega] at this
  · intro h i hi
    exact h _ (by omega) (by omega)
def someY (r : List Reg.Row) (x y k : Int) (g : Int → Int) (n : Nat) : Bool := (List.range n).any fun j => someX r x (y + (-k + (j : Int))) (g (-k + (j : Int))) (2 * g (-k + (j : Int)) + 1).toNat
def allY (r : List Reg.Row) (x y k : Int) (g : Int → Int) (n : Nat) : Bool := (List.range n).all fun j => allX r x (y + (-k + (j : Int))) (g (-k + (j : Int))) (2 * g (-k + (j : Int)) + 1).toNat
theorem someY_succ (r : List Reg.Row) (x y k : Int) (g : Int → Int) (n : Nat) {d : Int} (h : g (-k + (n : Int)) = d) : someY r x y k g (n + 1) = (someY r x y k g n || someX r x (y + (-k + (n : Int))) d (2 * d + 1).toNat) := by simp [someY, List.range_succ, h]
theorem allY_succ (r : List Reg.Row) (x y k : Int) (g : Int → Int) (n : Nat) {d : Int} (h : g (-k + (n : Int)) = d) : allY r x y k g (n + 1) = (allY r x y k g n && allX r x (y + (-k + (n : Int))) d (2 * d + 1).toNat) := by simp [allY, List.range_succ, h]
theorem someY_iff {r : List Reg.Row} {x y k : Int} {g : Int → Int} : someY r x y k g (2 * k + 1).toNat = true ↔ ∃ j i : Int, -k ≤ j ∧ j ≤ k ∧ -(g j) ≤ i ∧ i ≤ g j ∧ memC r (x + i) (y + j) = true := by
  unfold someY
  simp only [List.any_eq_true, List.mem_range, someX_iff]
  constructor
  · rintro ⟨j, hj, i, h1, h2, hm⟩
    exact ⟨_, _, by omega, by omega, h1, h2, hm⟩
  · rintro ⟨j, i, h1, h2, h3, h4, hm⟩
    refine ⟨(j + k).toNat, by omega, i, ?_⟩
    rw [show -k + (((j + k).toNat : Nat) : Int) = j by omega]
    exact ⟨h3, h4, hm⟩
theorem allY_iff {r : List Reg.Row} {x y k : Int} {g : Int → Int} : allY r x y k g (2 * k + 1).toNat = true ↔ ∀ j i : Int, -k ≤ j → j ≤ k → -(g j) ≤ i → i ≤ g j → memC r (x + i) (y + j) = true := by
  unfold allY
  simp only [List.all_eq_true, List.mem_range, allX_iff]
  constructor
  · intro h j i h1 h2 h3 h4
    have := h (j + k).toNat (by omega) i
    rw [show -k + (((j + k).toNat : Nat) : Int) = j by omega] at this
    exact this h3 h4
  · intro h j hj i h1 h2
    exact h _ _ (by omega) (by omega) h1 h2
theorem some_sq {r : List Reg.Row} {k : Int} (h : dilE r k = 0) (x y : Int) : someY r x y k (fun _ => k) (2 * k + 1).toNat = memC (dilR r k) x y := by
  rw [Bool.eq_iff_iff, dilR_mem h, someY_iff]
  constructor
  · rintro ⟨j, i, h1, h2, h3, h4, hm⟩
    exact ⟨_, _, by omega, by omega, by omega, by omega, hm⟩
  · rintro ⟨j, i, h1, h2, h3, h4, hm⟩
    refine ⟨j - y, i - x, by omega, by omega, by omega, by omega, ?_⟩
    rw [show x + (i - x) = i by omega, show y + (j - y) = j by omega]
    exact hm
theorem all_sq {r : List Reg.Row} {k : Int} (hk : reachOk k = true) (hv : rvalid r = true) (x y : Int) : allY r x y k (fun _ => k) (2 * k + 1).toNat = memC (eroR r k) x y := by
  rw [Bool.eq_iff_iff, eroR_mem hk hv, allY_iff]
  constructor
  · intro h j i h1 h2 h3 h4
    have := h (j - y) (i - x) (by omega) (by omega) (by omega) (by omega)
    rwa [show x + (i - x) = i by omega, show y + (j - y) = j by omega] at this
  · intro h j i h1 h2 h3 h4
    exact h _ _ (by omega) (by omega) (by omega) (by omega)
theorem some_di {r : List Reg.Row} {k : Int} (h : dilE r k = 0) (x y : Int) : someY r x y k (fun d => k - max d (-d)) (2 * k + 1).toNat = memC (dcrR r k) x y := by
  rw [Bool.eq_iff_iff, dcrR_mem h, someY_iff]
  constructor
  · rintro ⟨j, i, h1, h2, h3, h4, hm⟩
    exact ⟨_, _, by omega, hm⟩
  · rintro ⟨j, i, h1, hm⟩
    refine ⟨j - y, i - x, by omega, by omega, by omega, by omega, ?_⟩
    rw [show x + (i - x) = i by omega, show y + (j - y) = j by omega]
    exact hm
theorem all_di {r : List Reg.Row} {k : Int} (hk : reachOk k = true) (hv : rvalid r = true) (x y : Int) : allY r x y k (fun d => k - max d (-d)) (2 * k + 1).toNat = memC (ecrR r k) x y := by
  rw [Bool.eq_iff_iff, ecrR_mem hk hv, allY_iff]
  constructor
  · intro h j i h1
    have := h (j - y) (i - x) (by omega) (by omega) (by omega) (by omega)
    rwa [show x + (i - x) = i by omega, show y + (j - y) = j by omega] at this
  · intro h j i h1 h2 h3 h4
    exact h _ _ (by omega)
end Go.Proofs.Ytjppaknajdbkgaa

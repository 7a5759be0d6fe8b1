/- slices.SortFunc at runs, as Norm calls it: the runs sorted by From. -/
import Derived.Test.YtneelidbgigehaaGreatRunsA
import Derived.Test.YtneelidbgigehaaGreatSortOwn
import Derived.Test.YtneelidbgigehaaGreatShelf
namespace Go.Sort
end Go.Sort
namespace Go.Shelf
end Go.Shelf
namespace Go.Proofs.YtneelidbgigehaaGreat
set_option linter.unusedSimpArgs false
set_option linter.unusedVariables false
open Go.Shelf Go.RowKit Go.Lib Go.Sort Go.Proofs Runs
/-- a run within the bounds -/
abbrev FRun := { r : Run // fits r = true }
instance : Inhabited FRun := ⟨⟨(0, 0), by decide⟩⟩
def encF (r : FRun) : List Value := encRun r.1
theorem fits_bdS {r : Run} (h : fits r = true) : -1048576 ≤ r.1 ∧ r.1 ≤ 1048576 ∧ -1048576 ≤ r.2 ∧ r.2 ≤ 1048576 := by simpa [fits] using h
def cfF (x y : FRun) : Int := x.1.1 - y.1.1
theorem ltF (x y : FRun) : ltOf cfF x y = decide (x.1.1 < y.1.1) := by
  unfold ltOf cfF
  by_cases h : x.1.1 < y.1.1 <;> simp [h] <;> omega
theorem swoF : SWO (ltOf cfF) where
  irrefl x := by rw [ltF]; simp
  trans x y z h1 h2 := by rw [ltF] at *; simp at *; omega
  ntrans x y z h1 h2 := by rw [ltF] at *; simp at *; omega
set_option maxHeartbeats 1000000 in
theorem norm_cmp (x y : FRun) (W : World) : Calls Tryz.prog 91 #[.agg (encF x).toArray, .agg (encF y).toArray] W fun e w' => e = .returned (.int .i64 (cfF x y)) ∧ ∃ q os', w' = grow (W.drewN q) os' := by
  obtain ⟨⟨a, a'⟩, ha⟩ := x
  obtain ⟨⟨b, b'⟩, hb⟩ := y
  have h1 := fits_bdS ha
  have h2 := fits_bdS hb
  simp only at h1 h2
  show Calls Tryz.prog 91 #[.agg #[.int .i64 a, .int .i64 a'], .agg #[.int .i64 b, .int .i64 b']] W fun e w' => e = .returned (.int .i64 (a - b)) ∧ ∃ q os', w' = grow (W.drewN q) os'
  go_enter Tryz.func91, Tryz.ntmps91
  go_wp2
  go_ret
  exact ⟨rfl, 0, _, by rw [alloc_eq_grow, alloc_eq_grow, grow_grow]; rfl⟩
theorem attachF : ∀ (xs : List Run), (∀ r ∈ xs, fits r = true) → ∃ ys : List FRun, ys.map Subtype.val = xs
  | [], _ => ⟨[], rfl⟩
  | x :: xs, h => by
    obtain ⟨ys, hy⟩ := attachF xs (fun r hr => h r (by simp [hr]))
    exact ⟨⟨x, h x (by simp)⟩ :: ys, by simp [hy]⟩
theorem flatF (ys : List FRun) : ys.flatMap encF = (ys.map Subtype.val).flatMap encRun := by
  induction ys with
  | nil => rfl
  | cons y ys ih => simp [ih, encF]
theorem sort_runs (base : Nat) (w : World) (v : Value) (xs : List Run) (hf : ∀ r ∈ xs, fits r = true) (hown : w.ownsRow base 69 2 v xs.length (xs.flatMap encRun)) (hlen : xs.length < 4611686018427387904) (hB : base ≤ w.heap.size) :
    Calls Tryz.prog 90 #[v, .func (.func 91) #[] #[]] w fun e w' => e = .returned (.tuple #[]) ∧ ∃ ys : List Run, ys.Perm xs ∧ ys.Pairwise (fun a b => a.1 ≤ b.1) ∧
      w'.ownsRow base 69 2 v ys.length (ys.flatMap encRun) ∧ Below base w w' := by
  obtain ⟨zs, rfl⟩ := attachF xs hf
  have eg : ∀ args w, (callFunc 91 args).run Tryz.prog w = .ok (.enter 91 args) w := enters_of Tryz.func91 (by kernel_rfl) rfl
  have hown' : w.ownsRow base 69 2 v zs.length (zs.flatMap encF) := by rw [flatF]; simpa using hown
  have h := sort_own (enc := encF) (k := 2) Tryz.sortRun Tryz.isAgg69 Tryz.sizeOf69 (by decide) (fun _ => rfl) (fun x u hu => by simp [encF, encRun] at hu; rcases hu with rfl | rfl <;> rfl) cfF swoF 91 #[] eg (fun W x y => norm_cmp x y W) base _ w v zs hown' (by simpa using hlen)
  refine Calls.mono h fun e w' ⟨he, ys, hp, hs, ho, hg⟩ => ⟨he, ys.map Subtype.val, hp.map _, ?_, ?_, ?_⟩
  · rw [List.pairwise_map]
    refine hs.imp fun {a b} hab => ?_
    rw [ltF] at hab
    simpa using hab
  · rw [flatF] at ho; simpa using ho
  · exact own_grown (Below.refl _ _) hown' hg (Nat.le_refl _) hB
end Go.Proofs.YtneelidbgigehaaGreat

/- slices.SortFunc at edges and at steps. -/
import Derived.Test.YtneelidbgigehaaGreatSortOwn
import Derived.Test.YtneelidbgigehaaGreatShelf
import Derived.Test.YtneelidbgigehaaGreatRasWalk
namespace Go.Sort
end Go.Sort
namespace Go.Shelf
end Go.Shelf
namespace Go.Proofs.YtneelidbgigehaaGreat
set_option linter.unusedSimpArgs false
set_option linter.unusedVariables false
open Go.Shelf Go.RowKit Go.Lib Go.Sort Go.Proofs Runs Ras
theorem attachP {α : Type} {p : α → Prop} : ∀ (xs : List α), (∀ r ∈ xs, p r) → ∃ ys : List {x : α // p x}, ys.map Subtype.val = xs
  | [], _ => ⟨[], rfl⟩
  | x :: xs, h => by
    obtain ⟨ys, hy⟩ := attachP xs (fun r hr => h r (by simp [hr]))
    exact ⟨⟨x, h x (by simp)⟩ :: ys, by simp [hy]⟩
theorem flatP {α : Type} {p : α → Prop} (enc : α → List Value) (ys : List {x : α // p x}) : ys.flatMap (fun x => enc x.1) = (ys.map Subtype.val).flatMap enc := by
  induction ys with
  | nil => rfl
  | cons y ys ih => simp [ih]
abbrev FEd := { e : Ed // okEd e }
instance : Inhabited FEd := ⟨⟨(((0, 0), (0, 1)), 1), by unfold okEd; decide⟩⟩
def encFE (e : FEd) : List Value := encEd e.1
def cfE (x y : FEd) : Int := x.1.1.1.2 - y.1.1.1.2
theorem ltE (x y : FEd) : ltOf cfE x y = decide (x.1.1.1.2 < y.1.1.1.2) := by
  unfold ltOf cfE
  by_cases h : x.1.1.1.2 < y.1.1.1.2 <;> simp [h] <;> omega
theorem swoE : SWO (ltOf cfE) where
  irrefl x := by rw [ltE]; simp
  trans x y z h1 h2 := by rw [ltE] at *; simp at *; omega
  ntrans x y z h1 h2 := by rw [ltE] at *; simp at *; omega
set_option maxHeartbeats 1000000 in
theorem edges_cmp (x y : FEd) (W : World) : Calls Tryz.prog 45 #[.agg (encFE x).toArray, .agg (encFE y).toArray] W fun e w' => e = .returned (.int .i64 (cfE x y)) ∧ ∃ q os', w' = grow (W.drewN q) os' := by
  obtain ⟨⟨⟨⟨a, a'⟩, ⟨b, b'⟩⟩, s⟩, ha⟩ := x
  obtain ⟨⟨⟨⟨c, c'⟩, ⟨d, d'⟩⟩, t⟩, hb⟩ := y
  unfold okEd at ha hb
  simp only at ha hb
  show Calls Tryz.prog 45 #[.agg #[.int .i64 a, .int .i64 a', .int .i64 b, .int .i64 b', .int .i64 s], .agg #[.int .i64 c, .int .i64 c', .int .i64 d, .int .i64 d', .int .i64 t]] W fun e w' => e = .returned (.int .i64 (a' - c')) ∧ ∃ q os', w' = grow (W.drewN q) os'
  go_enter Tryz.func45, Tryz.ntmps45
  go_wp2
  go_ret
  exact ⟨rfl, 0, _, by rw [alloc_eq_grow, alloc_eq_grow, grow_grow]; rfl⟩
theorem sort_edges (base : Nat) (w : World) (v : Value) (xs : List Ed) (hf : ∀ r ∈ xs, okEd r) (hown : w.ownsRow base 85 5 v xs.length (xs.flatMap encEd)) (hlen : xs.length < 4611686018427387904) (hB : base ≤ w.heap.size) :
    Calls Tryz.prog 44 #[v, .func (.func 45) #[] #[]] w fun e w' => e = .returned (.tuple #[]) ∧ ∃ ys : List Ed, ys.Perm xs ∧ ys.Pairwise (fun a b => a.1.1.2 ≤ b.1.1.2) ∧
      w'.ownsRow base 85 5 v ys.length (ys.flatMap encEd) ∧ Below base w w' := by
  obtain ⟨zs, rfl⟩ := attachP xs hf
  have eg : ∀ args w, (callFunc 45 args).run Tryz.prog w = .ok (.enter 45 args) w := enters_of Tryz.func45 (by kernel_rfl) rfl
  have hown' : w.ownsRow base 85 5 v zs.length (zs.flatMap encFE) := by
    have := flatP encEd zs
    rw [show zs.flatMap encFE = zs.flatMap (fun x => encEd x.1) from rfl, this]; simpa using hown
  have h := sort_own (enc := encFE) (k := 5) Tryz.sortEdge Tryz.isAgg85 Tryz.sizeOf85 (by decide) (fun _ => rfl) (fun x u hu => by simp [encFE, encEd] at hu; rcases hu with rfl | rfl | rfl | rfl | rfl <;> rfl) cfE swoE 45 #[] eg (fun W x y => edges_cmp x y W) base _ w v zs hown' (by simpa using hlen)
  refine Calls.mono h fun e w' ⟨he, ys, hp, hs, ho, hg⟩ => ⟨he, ys.map Subtype.val, hp.map _, ?_, ?_, ?_⟩
  · rw [List.pairwise_map]
    refine hs.imp fun {a b} hab => ?_
    rw [ltE] at hab
    simpa using hab
  · rw [show ys.flatMap encFE = ys.flatMap (fun x => encEd x.1) from rfl, flatP encEd ys] at ho; simpa using ho
  · exact own_grown (Below.refl _ _) hown' hg (Nat.le_refl _) hB
/-- a step within bounds -/
def okSt (s : Int × Int) : Prop := -1152921504606846976 ≤ s.1 ∧ s.1 ≤ 1152921504606846976
abbrev FSt := { s : Int × Int // okSt s }
instance : Inhabited FSt := ⟨⟨(0, 0), by unfold okSt; decide⟩⟩
def encFS (e : FSt) : List Value := encPt e.1
def cfS (x y : FSt) : Int := y.1.1 - x.1.1
theorem ltS (x y : FSt) : ltOf cfS x y = decide (y.1.1 < x.1.1) := by
  unfold ltOf cfS
  by_cases h : y.1.1 < x.1.1 <;> simp [h] <;> omega
theorem swoS : SWO (ltOf cfS) where
  irrefl x := by rw [ltS]; simp
  trans x y z h1 h2 := by rw [ltS] at *; simp at *; omega
  ntrans x y z h1 h2 := by rw [ltS] at *; simp at *; omega
set_option maxHeartbeats 1000000 in
theorem steps_cmp (x y : FSt) (W : World) : Calls Tryz.prog 50 #[.agg (encFS x).toArray, .agg (encFS y).toArray] W fun e w' => e = .returned (.int .i64 (cfS x y)) ∧ ∃ q os', w' = grow (W.drewN q) os' := by
  obtain ⟨⟨a, a'⟩, ha⟩ := x
  obtain ⟨⟨b, b'⟩, hb⟩ := y
  unfold okSt at ha hb
  simp only at ha hb
  show Calls Tryz.prog 50 #[.agg #[.int .i64 a, .int .i64 a'], .agg #[.int .i64 b, .int .i64 b']] W fun e w' => e = .returned (.int .i64 (b - a)) ∧ ∃ q os', w' = grow (W.drewN q) os'
  have e1 : IntKind.i64.wrap (b - a) = b - a := IntWalk.i64_in _ (by omega)
  go_enter Tryz.func50, Tryz.ntmps50
  go_wp2
  go_ret
  exact ⟨rfl, 0, _, by rw [alloc_eq_grow, alloc_eq_grow, grow_grow]; rfl⟩
theorem sort_steps (base : Nat) (w : World) (v : Value) (xs : List (Int × Int)) (hf : ∀ r ∈ xs, okSt r) (hown : w.ownsRow base 93 2 v xs.length (xs.flatMap encPt)) (hlen : xs.length < 4611686018427387904) (hB : base ≤ w.heap.size) :
    Calls Tryz.prog 49 #[v, .func (.func 50) #[] #[]] w fun e w' => e = .returned (.tuple #[]) ∧ ∃ ys : List (Int × Int), ys.Perm xs ∧ ys.Pairwise (fun a b => b.1 ≤ a.1) ∧
      w'.ownsRow base 93 2 v ys.length (ys.flatMap encPt) ∧ Below base w w' := by
  obtain ⟨zs, rfl⟩ := attachP xs hf
  have eg : ∀ args w, (callFunc 50 args).run Tryz.prog w = .ok (.enter 50 args) w := enters_of Tryz.func50 (by kernel_rfl) rfl
  have hown' : w.ownsRow base 93 2 v zs.length (zs.flatMap encFS) := by
    have := flatP encPt zs
    rw [show zs.flatMap encFS = zs.flatMap (fun x => encPt x.1) from rfl, this]; simpa using hown
  have h := sort_own (enc := encFS) (k := 2) Tryz.sortStep Tryz.isAgg93 Tryz.sizeOf93 (by decide) (fun _ => rfl) (fun x u hu => by simp [encFS, encPt] at hu; rcases hu with rfl | rfl <;> rfl) cfS swoS 50 #[] eg (fun W x y => steps_cmp x y W) base _ w v zs hown' (by simpa using hlen)
  refine Calls.mono h fun e w' ⟨he, ys, hp, hs, ho, hg⟩ => ⟨he, ys.map Subtype.val, hp.map _, ?_, ?_, ?_⟩
  · rw [List.pairwise_map]
    refine hs.imp fun {a b} hab => ?_
    rw [ltS] at hab
    simpa using hab
  · rw [show ys.flatMap encFS = ys.flatMap (fun x => encPt x.1) from rfl, flatP encPt ys] at ho; simpa using ho
  · exact own_grown (Below.refl _ _) hown' hg (Nat.le_refl _) hB
end Go.Proofs.YtneelidbgigehaaGreat

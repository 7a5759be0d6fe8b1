/- slices.Clone, slices.Reverse and slices.Compact at points, as Hull calls them. -/
import Derived.Test.YteadnlodccnfcaaSortOwn
import Derived.Test.YteadnlodccnfcaaPlanarMeet2
import Derived.Test.YteadnlodccnfcaaPlanarArea
import Derived.Test.YteadnlodccnfcaaHullMath3
import Derived.Lib.SliceRun
namespace Go.Sort
end Go.Sort
namespace Go.Shelf
end Go.Shelf
namespace Go.Proofs.Yteadnlodccnfcaa
set_option linter.unusedSimpArgs false
set_option linter.unusedVariables false
set_option maxRecDepth 100000
open Go.Shelf Go.RowKit Go.Lib Go.Sort Go.Proofs Planar
attribute [local go_sem] Kin.cell Kin.frozen Kin.lt0 Kin.lt1 Kin.lt2 Kin.lt3 run_mkf
theorem infoPt : (Try.prog.info? 36).map (fun i => (i.zero, i.size, i.bytes)) = some (some (.agg #[.int .i64 0, .int .i64 0]), 2, 16) := by kernel_rfl
theorem oneP : OneC encPt := fun x u hu => by simp [encPt] at hu; rcases hu with rfl | rfl <;> rfl
theorem run_eql_nilP (a : Option Addr) (l c : Nat) (w : World) : (binOp .eql 40 (.slice a l c) (.slice none 0 0)).run Try.prog w = .ok (.bool a.isNone) w :=
  run_eql_slice_nil w _ 36 a l c 0 0 (by kernel_rfl)
set_option maxHeartbeats 4000000 in
theorem clone_pts (v : Value) (l : List Pt) (w : World) (h : Rd 2 encPt w v l) (hlen : l.length ≤ 1099511627776) :
    Calls Try.prog 46 #[v] w fun e w' => (∃ u, e = .returned u ∧ w'.ownsRow w.heap.size 36 2 u l.length (l.flatMap encPt)) ∧ Below w.heap.size w w' := by
  obtain ⟨A, capA, rfl, hcapA, hopA⟩ := h.open_
  have HA := Lib.hid hopA
  have HLA := Lib.hid h
  clear hopA h
  have hnl := run_eql_nilP
  cases A with
  | none =>
    have hl : l = [] := by
      rcases l with _ | ⟨r, l⟩
      · rfl
      · obtain ⟨b, off, e, _⟩ := HA.out 0 r rfl
        cases e
    subst hl
    go_enter Try.func46, Try.ntmps46
    go_wp2
    go_ret
    exact ⟨⟨_, rfl, World.ownsRow_nil _ _ _ _⟩, (by repeat (first | with_reducible (first | exact blA | exact blB | refine blC _ ?_ | refine blD ?_ ?_ _ | refine blE ?_ | refine blF _ ?_ | refine blG ?_ _ | refine blH ?_ | refine blI ?_ ?_ _) | (simp only [World.size_alloc]; omega) | (simp <;> omega)))⟩
  | some p =>
    go_enter Try.func46, Try.ntmps46
    go_wp2_with (at_builtin; refine wpList_app _ rfl _ _ 40 rfl encPt_len (by decide) oneP w.heap.size 36 (.agg #[.int .i64 0, .int .i64 0]) 16 infoPt rfl Try.underlying40 _ _ _ _ rfl (own_made w encPt_len w.heap.size _ [] #[] rfl (Nat.le_refl _) (by decide)) _ _ _ rfl (HLA.out.below (by repeat (first | with_reducible (first | exact blA | exact blB | refine blC _ ?_ | refine blD ?_ ?_ _ | refine blE ?_ | refine blF _ ?_ | refine blG ?_ _ | refine blH ?_ | refine blI ?_ ?_ _) | (simp only [World.size_alloc]; omega) | (simp <;> omega)))) ?c1 (by decide) ?c2 ?_; (case c1 => (first | (simp only [List.length_append, List.length_cons, List.length_nil]; omega) | omega | (simp; omega))); (case c2 => exact (by repeat (first | with_reducible exact Nat.le_refl _ | assumption | with_reducible refine le_alloc ?_ _ | with_reducible refine le_drew ?_ | with_reducible refine Kin.le _ ?_ | assumption | omega | (simp only [World.size_alloc]; omega)))); intro v' w1 hown' hg hbel hat'; (obtain ⟨y, rfl⟩ : ∃ y : Kin w, y.1 = w1 := ⟨⟨w1, Below.trans (by repeat (first | with_reducible (first | exact blA | exact blB | refine blC _ ?_ | refine blD ?_ ?_ _ | refine blE ?_ | refine blF _ ?_ | refine blG ?_ _ | refine blH ?_ | refine blI ?_ ?_ _) | (simp only [World.size_alloc]; omega) | (simp <;> omega))) hbel⟩, rfl⟩); clear hbel hg hat')
    go_ret
    exact ⟨⟨_, rfl, by simpa using hown'⟩, (by repeat (first | with_reducible (first | exact blA | exact blB | refine blC _ ?_ | refine blD ?_ ?_ _ | refine blE ?_ | refine blF _ ?_ | refine blG ?_ _ | refine blH ?_ | refine blI ?_ ?_ _) | (simp only [World.size_alloc]; omega) | (simp <;> omega)))⟩
theorem grow_nil (w : World) : grow w #[] = w := by simp [grow]
end Go.Proofs.Yteadnlodccnfcaa

/- MorphDiamonds: for every input the law returns true. No condition. -/
import Derived.Test.YtjppaknajdbkgaaMorphAwk
import Derived.Test.YtjppaknajdbkgaaMorphSqM
import Derived.Deep.RegionHeld
namespace Go.Proofs.Ytjppaknajdbkgaa
set_option linter.unusedSimpArgs false
set_option linter.unusedVariables false
open Go.ChangeShapes Go.WideShapes Go.ChangeAt Go.RowKit Go.Joins Runs Reg
attribute [local go_sem] Kin.cell Kin.frozen Kin.lt0 Kin.lt1 Kin.lt2 Kin.lt3 run_mkf
set_option maxRecDepth 100000 in
set_option maxHeartbeats 32000000 in
theorem morphDiamonds_walk (W : World) (v : Value) (h : IsNear W v) : Calls Try.prog 10 #[v] W fun e W' => e = .returned (.bool true) ∧ Below W.heap.size W W' := by
  obtain ⟨A, nA, cA, k, cx, cy, rfl, ⟨r, h, hbd⟩, hk, hx, hy⟩ := h
  have H := Lib.hid h
  have BD := Lib.hid hbd
  clear h hbd
  cases hh : heavyR r
  rotate_left
  · go_enter Try.func10, Try.ntmps10
    go_wp2_with (first | (go_at_call 14; (with_reducible refine (Kin.callK (W := ((W.alloc (.cells #[.slice A nA cA, .int .i64 k, .int .i64 cx, .int .i64 cy] 40)).alloc (.cells #[.int .i64 cx, .int .i64 cy] 38))) (by repeat (first | with_reducible (first | exact blA | exact blB | refine blC _ ?_ | refine blD ?_ ?_ _ | refine blE ?_ | refine blF _ ?_ | refine blG ?_ _ | refine blH ?_ | refine blI ?_ ?_ _) | (simp only [World.size_alloc]; omega) | (simp <;> omega))) (heavy_is _ r _ (H.out.below (by repeat (first | with_reducible (first | exact blA | exact blB | refine blC _ ?_ | refine blD ?_ ?_ _ | refine blE ?_ | refine blF _ ?_ | refine blG ?_ _ | refine blH ?_ | refine blI ?_ ?_ _) | (simp only [World.size_alloc]; omega) | (simp <;> omega)))) BD.out hh)).mono ?_); rintro e w' ⟨z, rfl, hz, rfl⟩) | (go_at_call 15; (with_reducible refine (Kin.callK (W := ((W.alloc (.cells #[.slice A nA cA, .int .i64 k, .int .i64 cx, .int .i64 cy] 40)).alloc (.cells #[.int .i64 cx, .int .i64 cy] 38))) (by repeat (first | with_reducible (first | exact blA | exact blB | refine blC _ ?_ | refine blD ?_ ?_ _ | refine blE ?_ | refine blF _ ?_ | refine blG ?_ _ | refine blH ?_ | refine blI ?_ ?_ _) | (simp only [World.size_alloc]; omega) | (simp <;> omega))) (awake20_any _)).mono ?_); rintro e w' ⟨z, rfl, hz, rfl⟩))
    go_ret
    exact ⟨rfl, (by repeat (first | with_reducible (first | exact blA | exact blB | refine blC _ ?_ | refine blD ?_ ?_ _ | refine blE ?_ | refine blF _ ?_ | refine blG ?_ _ | refine blH ?_ | refine blI ?_ ?_ _) | (simp only [World.size_alloc]; omega) | (simp <;> omega)))⟩
  cases hv : rvalid r
  · go_enter Try.func10, Try.ntmps10
    go_wp2_with (first | (go_at_call 14; (with_reducible refine (Kin.callK (W := ((W.alloc (.cells #[.slice A nA cA, .int .i64 k, .int .i64 cx, .int .i64 cy] 40)).alloc (.cells #[.int .i64 cx, .int .i64 cy] 38))) (by repeat (first | with_reducible (first | exact blA | exact blB | refine blC _ ?_ | refine blD ?_ ?_ _ | refine blE ?_ | refine blF _ ?_ | refine blG ?_ _ | refine blH ?_ | refine blI ?_ ?_ _) | (simp only [World.size_alloc]; omega) | (simp <;> omega))) (heavy_is _ r _ (H.out.below (by repeat (first | with_reducible (first | exact blA | exact blB | refine blC _ ?_ | refine blD ?_ ?_ _ | refine blE ?_ | refine blF _ ?_ | refine blG ?_ _ | refine blH ?_ | refine blI ?_ ?_ _) | (simp only [World.size_alloc]; omega) | (simp <;> omega)))) BD.out hh)).mono ?_); rintro e w' ⟨z, rfl, hz, rfl⟩) | (go_at_call 31; (with_reducible refine (Kin.callK (W := ((W.alloc (.cells #[.slice A nA cA, .int .i64 k, .int .i64 cx, .int .i64 cy] 40)).alloc (.cells #[.int .i64 cx, .int .i64 cy] 38))) (by repeat (first | with_reducible (first | exact blA | exact blB | refine blC _ ?_ | refine blD ?_ ?_ _ | refine blE ?_ | refine blF _ ?_ | refine blG ?_ _ | refine blH ?_ | refine blI ?_ ?_ _) | (simp only [World.size_alloc]; omega) | (simp <;> omega))) (valid18_is _ r _ (H.out.below (by repeat (first | with_reducible (first | exact blA | exact blB | refine blC _ ?_ | refine blD ?_ ?_ _ | refine blE ?_ | refine blF _ ?_ | refine blG ?_ _ | refine blH ?_ | refine blI ?_ ?_ _) | (simp only [World.size_alloc]; omega) | (simp <;> omega)))) BD.out hv)).mono ?_); rintro e w' ⟨z, rfl, hz, rfl⟩) | (go_at_call 15; (with_reducible refine (Kin.callK (W := ((W.alloc (.cells #[.slice A nA cA, .int .i64 k, .int .i64 cx, .int .i64 cy] 40)).alloc (.cells #[.int .i64 cx, .int .i64 cy] 38))) (by repeat (first | with_reducible (first | exact blA | exact blB | refine blC _ ?_ | refine blD ?_ ?_ _ | refine blE ?_ | refine blF _ ?_ | refine blG ?_ _ | refine blH ?_ | refine blI ?_ ?_ _) | (simp only [World.size_alloc]; omega) | (simp <;> omega))) (awake20_any _)).mono ?_); rintro e w' ⟨z, rfl, hz, rfl⟩))
    go_ret
    exact ⟨rfl, (by repeat (first | with_reducible (first | exact blA | exact blB | refine blC _ ?_ | refine blD ?_ ?_ _ | refine blE ?_ | refine blF _ ?_ | refine blG ?_ _ | refine blH ?_ | refine blI ?_ ?_ _) | (simp only [World.size_alloc]; omega) | (simp <;> omega)))⟩
  by_cases hk0 : 0 ≤ k
  rotate_left
  · go_enter Try.func10, Try.ntmps10
    go_wp2_with (first | (go_at_call 14; (with_reducible refine (Kin.callK (W := ((W.alloc (.cells #[.slice A nA cA, .int .i64 k, .int .i64 cx, .int .i64 cy] 40)).alloc (.cells #[.int .i64 cx, .int .i64 cy] 38))) (by repeat (first | with_reducible (first | exact blA | exact blB | refine blC _ ?_ | refine blD ?_ ?_ _ | refine blE ?_ | refine blF _ ?_ | refine blG ?_ _ | refine blH ?_ | refine blI ?_ ?_ _) | (simp only [World.size_alloc]; omega) | (simp <;> omega))) (heavy_is _ r _ (H.out.below (by repeat (first | with_reducible (first | exact blA | exact blB | refine blC _ ?_ | refine blD ?_ ?_ _ | refine blE ?_ | refine blF _ ?_ | refine blG ?_ _ | refine blH ?_ | refine blI ?_ ?_ _) | (simp only [World.size_alloc]; omega) | (simp <;> omega)))) BD.out hh)).mono ?_); rintro e w' ⟨z, rfl, hz, rfl⟩) | (go_at_call 31; (with_reducible refine (Kin.callK (W := ((W.alloc (.cells #[.slice A nA cA, .int .i64 k, .int .i64 cx, .int .i64 cy] 40)).alloc (.cells #[.int .i64 cx, .int .i64 cy] 38))) (by repeat (first | with_reducible (first | exact blA | exact blB | refine blC _ ?_ | refine blD ?_ ?_ _ | refine blE ?_ | refine blF _ ?_ | refine blG ?_ _ | refine blH ?_ | refine blI ?_ ?_ _) | (simp only [World.size_alloc]; omega) | (simp <;> omega))) (valid18_is _ r _ (H.out.below (by repeat (first | with_reducible (first | exact blA | exact blB | refine blC _ ?_ | refine blD ?_ ?_ _ | refine blE ?_ | refine blF _ ?_ | refine blG ?_ _ | refine blH ?_ | refine blI ?_ ?_ _) | (simp only [World.size_alloc]; omega) | (simp <;> omega)))) BD.out hv)).mono ?_); rintro e w' ⟨z, rfl, hz, rfl⟩) | (go_at_call 15; (with_reducible refine (Kin.callK (W := ((W.alloc (.cells #[.slice A nA cA, .int .i64 k, .int .i64 cx, .int .i64 cy] 40)).alloc (.cells #[.int .i64 cx, .int .i64 cy] 38))) (by repeat (first | with_reducible (first | exact blA | exact blB | refine blC _ ?_ | refine blD ?_ ?_ _ | refine blE ?_ | refine blF _ ?_ | refine blG ?_ _ | refine blH ?_ | refine blI ?_ ?_ _) | (simp only [World.size_alloc]; omega) | (simp <;> omega))) (awake20_any _)).mono ?_); rintro e w' ⟨z, rfl, hz, rfl⟩))
    go_ret
    exact ⟨rfl, (by repeat (first | with_reducible (first | exact blA | exact blB | refine blC _ ?_ | refine blD ?_ ?_ _ | refine blE ?_ | refine blF _ ?_ | refine blG ?_ _ | refine blH ?_ | refine blI ?_ ?_ _) | (simp only [World.size_alloc]; omega) | (simp <;> omega)))⟩
  by_cases hk1 : k ≤ 6
  rotate_left
  · go_enter Try.func10, Try.ntmps10
    go_wp2_with (first | (go_at_call 14; (with_reducible refine (Kin.callK (W := ((W.alloc (.cells #[.slice A nA cA, .int .i64 k, .int .i64 cx, .int .i64 cy] 40)).alloc (.cells #[.int .i64 cx, .int .i64 cy] 38))) (by repeat (first | with_reducible (first | exact blA | exact blB | refine blC _ ?_ | refine blD ?_ ?_ _ | refine blE ?_ | refine blF _ ?_ | refine blG ?_ _ | refine blH ?_ | refine blI ?_ ?_ _) | (simp only [World.size_alloc]; omega) | (simp <;> omega))) (heavy_is _ r _ (H.out.below (by repeat (first | with_reducible (first | exact blA | exact blB | refine blC _ ?_ | refine blD ?_ ?_ _ | refine blE ?_ | refine blF _ ?_ | refine blG ?_ _ | refine blH ?_ | refine blI ?_ ?_ _) | (simp only [World.size_alloc]; omega) | (simp <;> omega)))) BD.out hh)).mono ?_); rintro e w' ⟨z, rfl, hz, rfl⟩) | (go_at_call 31; (with_reducible refine (Kin.callK (W := ((W.alloc (.cells #[.slice A nA cA, .int .i64 k, .int .i64 cx, .int .i64 cy] 40)).alloc (.cells #[.int .i64 cx, .int .i64 cy] 38))) (by repeat (first | with_reducible (first | exact blA | exact blB | refine blC _ ?_ | refine blD ?_ ?_ _ | refine blE ?_ | refine blF _ ?_ | refine blG ?_ _ | refine blH ?_ | refine blI ?_ ?_ _) | (simp only [World.size_alloc]; omega) | (simp <;> omega))) (valid18_is _ r _ (H.out.below (by repeat (first | with_reducible (first | exact blA | exact blB | refine blC _ ?_ | refine blD ?_ ?_ _ | refine blE ?_ | refine blF _ ?_ | refine blG ?_ _ | refine blH ?_ | refine blI ?_ ?_ _) | (simp only [World.size_alloc]; omega) | (simp <;> omega)))) BD.out hv)).mono ?_); rintro e w' ⟨z, rfl, hz, rfl⟩) | (go_at_call 15; (with_reducible refine (Kin.callK (W := ((W.alloc (.cells #[.slice A nA cA, .int .i64 k, .int .i64 cx, .int .i64 cy] 40)).alloc (.cells #[.int .i64 cx, .int .i64 cy] 38))) (by repeat (first | with_reducible (first | exact blA | exact blB | refine blC _ ?_ | refine blD ?_ ?_ _ | refine blE ?_ | refine blF _ ?_ | refine blG ?_ _ | refine blH ?_ | refine blI ?_ ?_ _) | (simp only [World.size_alloc]; omega) | (simp <;> omega))) (awake20_any _)).mono ?_); rintro e w' ⟨z, rfl, hz, rfl⟩))
    go_ret
    exact ⟨rfl, (by repeat (first | with_reducible (first | exact blA | exact blB | refine blC _ ?_ | refine blD ?_ ?_ _ | refine blE ?_ | refine blF _ ?_ | refine blG ?_ _ | refine blH ?_ | refine blI ?_ ?_ _) | (simp only [World.size_alloc]; omega) | (simp <;> omega)))⟩
  by_cases hx0 : -5000 ≤ cx
  rotate_left
  · go_enter Try.func10, Try.ntmps10
    go_wp2_with (first | (go_at_call 14; (with_reducible refine (Kin.callK (W := ((W.alloc (.cells #[.slice A nA cA, .int .i64 k, .int .i64 cx, .int .i64 cy] 40)).alloc (.cells #[.int .i64 cx, .int .i64 cy] 38))) (by repeat (first | with_reducible (first | exact blA | exact blB | refine blC _ ?_ | refine blD ?_ ?_ _ | refine blE ?_ | refine blF _ ?_ | refine blG ?_ _ | refine blH ?_ | refine blI ?_ ?_ _) | (simp only [World.size_alloc]; omega) | (simp <;> omega))) (heavy_is _ r _ (H.out.below (by repeat (first | with_reducible (first | exact blA | exact blB | refine blC _ ?_ | refine blD ?_ ?_ _ | refine blE ?_ | refine blF _ ?_ | refine blG ?_ _ | refine blH ?_ | refine blI ?_ ?_ _) | (simp only [World.size_alloc]; omega) | (simp <;> omega)))) BD.out hh)).mono ?_); rintro e w' ⟨z, rfl, hz, rfl⟩) | (go_at_call 31; (with_reducible refine (Kin.callK (W := ((W.alloc (.cells #[.slice A nA cA, .int .i64 k, .int .i64 cx, .int .i64 cy] 40)).alloc (.cells #[.int .i64 cx, .int .i64 cy] 38))) (by repeat (first | with_reducible (first | exact blA | exact blB | refine blC _ ?_ | refine blD ?_ ?_ _ | refine blE ?_ | refine blF _ ?_ | refine blG ?_ _ | refine blH ?_ | refine blI ?_ ?_ _) | (simp only [World.size_alloc]; omega) | (simp <;> omega))) (valid18_is _ r _ (H.out.below (by repeat (first | with_reducible (first | exact blA | exact blB | refine blC _ ?_ | refine blD ?_ ?_ _ | refine blE ?_ | refine blF _ ?_ | refine blG ?_ _ | refine blH ?_ | refine blI ?_ ?_ _) | (simp only [World.size_alloc]; omega) | (simp <;> omega)))) BD.out hv)).mono ?_); rintro e w' ⟨z, rfl, hz, rfl⟩) | (go_at_call 15; (with_reducible refine (Kin.callK (W := ((W.alloc (.cells #[.slice A nA cA, .int .i64 k, .int .i64 cx, .int .i64 cy] 40)).alloc (.cells #[.int .i64 cx, .int .i64 cy] 38))) (by repeat (first | with_reducible (first | exact blA | exact blB | refine blC _ ?_ | refine blD ?_ ?_ _ | refine blE ?_ | refine blF _ ?_ | refine blG ?_ _ | refine blH ?_ | refine blI ?_ ?_ _) | (simp only [World.size_alloc]; omega) | (simp <;> omega))) (awake20_any _)).mono ?_); rintro e w' ⟨z, rfl, hz, rfl⟩))
    go_ret
    exact ⟨rfl, (by repeat (first | with_reducible (first | exact blA | exact blB | refine blC _ ?_ | refine blD ?_ ?_ _ | refine blE ?_ | refine blF _ ?_ | refine blG ?_ _ | refine blH ?_ | refine blI ?_ ?_ _) | (simp only [World.size_alloc]; omega) | (simp <;> omega)))⟩
  by_cases hx1 : cx ≤ 5000
  rotate_left
  · go_enter Try.func10, Try.ntmps10
    go_wp2_with (first | (go_at_call 14; (with_reducible refine (Kin.callK (W := ((W.alloc (.cells #[.slice A nA cA, .int .i64 k, .int .i64 cx, .int .i64 cy] 40)).alloc (.cells #[.int .i64 cx, .int .i64 cy] 38))) (by repeat (first | with_reducible (first | exact blA | exact blB | refine blC _ ?_ | refine blD ?_ ?_ _ | refine blE ?_ | refine blF _ ?_ | refine blG ?_ _ | refine blH ?_ | refine blI ?_ ?_ _) | (simp only [World.size_alloc]; omega) | (simp <;> omega))) (heavy_is _ r _ (H.out.below (by repeat (first | with_reducible (first | exact blA | exact blB | refine blC _ ?_ | refine blD ?_ ?_ _ | refine blE ?_ | refine blF _ ?_ | refine blG ?_ _ | refine blH ?_ | refine blI ?_ ?_ _) | (simp only [World.size_alloc]; omega) | (simp <;> omega)))) BD.out hh)).mono ?_); rintro e w' ⟨z, rfl, hz, rfl⟩) | (go_at_call 31; (with_reducible refine (Kin.callK (W := ((W.alloc (.cells #[.slice A nA cA, .int .i64 k, .int .i64 cx, .int .i64 cy] 40)).alloc (.cells #[.int .i64 cx, .int .i64 cy] 38))) (by repeat (first | with_reducible (first | exact blA | exact blB | refine blC _ ?_ | refine blD ?_ ?_ _ | refine blE ?_ | refine blF _ ?_ | refine blG ?_ _ | refine blH ?_ | refine blI ?_ ?_ _) | (simp only [World.size_alloc]; omega) | (simp <;> omega))) (valid18_is _ r _ (H.out.below (by repeat (first | with_reducible (first | exact blA | exact blB | refine blC _ ?_ | refine blD ?_ ?_ _ | refine blE ?_ | refine blF _ ?_ | refine blG ?_ _ | refine blH ?_ | refine blI ?_ ?_ _) | (simp only [World.size_alloc]; omega) | (simp <;> omega)))) BD.out hv)).mono ?_); rintro e w' ⟨z, rfl, hz, rfl⟩) | (go_at_call 15; (with_reducible refine (Kin.callK (W := ((W.alloc (.cells #[.slice A nA cA, .int .i64 k, .int .i64 cx, .int .i64 cy] 40)).alloc (.cells #[.int .i64 cx, .int .i64 cy] 38))) (by repeat (first | with_reducible (first | exact blA | exact blB | refine blC _ ?_ | refine blD ?_ ?_ _ | refine blE ?_ | refine blF _ ?_ | refine blG ?_ _ | refine blH ?_ | refine blI ?_ ?_ _) | (simp only [World.size_alloc]; omega) | (simp <;> omega))) (awake20_any _)).mono ?_); rintro e w' ⟨z, rfl, hz, rfl⟩))
    go_ret
    exact ⟨rfl, (by repeat (first | with_reducible (first | exact blA | exact blB | refine blC _ ?_ | refine blD ?_ ?_ _ | refine blE ?_ | refine blF _ ?_ | refine blG ?_ _ | refine blH ?_ | refine blI ?_ ?_ _) | (simp only [World.size_alloc]; omega) | (simp <;> omega)))⟩
  by_cases hy0 : -5000 ≤ cy
  rotate_left
  · go_enter Try.func10, Try.ntmps10
    go_wp2_with (first | (go_at_call 14; (with_reducible refine (Kin.callK (W := ((W.alloc (.cells #[.slice A nA cA, .int .i64 k, .int .i64 cx, .int .i64 cy] 40)).alloc (.cells #[.int .i64 cx, .int .i64 cy] 38))) (by repeat (first | with_reducible (first | exact blA | exact blB | refine blC _ ?_ | refine blD ?_ ?_ _ | refine blE ?_ | refine blF _ ?_ | refine blG ?_ _ | refine blH ?_ | refine blI ?_ ?_ _) | (simp only [World.size_alloc]; omega) | (simp <;> omega))) (heavy_is _ r _ (H.out.below (by repeat (first | with_reducible (first | exact blA | exact blB | refine blC _ ?_ | refine blD ?_ ?_ _ | refine blE ?_ | refine blF _ ?_ | refine blG ?_ _ | refine blH ?_ | refine blI ?_ ?_ _) | (simp only [World.size_alloc]; omega) | (simp <;> omega)))) BD.out hh)).mono ?_); rintro e w' ⟨z, rfl, hz, rfl⟩) | (go_at_call 31; (with_reducible refine (Kin.callK (W := ((W.alloc (.cells #[.slice A nA cA, .int .i64 k, .int .i64 cx, .int .i64 cy] 40)).alloc (.cells #[.int .i64 cx, .int .i64 cy] 38))) (by repeat (first | with_reducible (first | exact blA | exact blB | refine blC _ ?_ | refine blD ?_ ?_ _ | refine blE ?_ | refine blF _ ?_ | refine blG ?_ _ | refine blH ?_ | refine blI ?_ ?_ _) | (simp only [World.size_alloc]; omega) | (simp <;> omega))) (valid18_is _ r _ (H.out.below (by repeat (first | with_reducible (first | exact blA | exact blB | refine blC _ ?_ | refine blD ?_ ?_ _ | refine blE ?_ | refine blF _ ?_ | refine blG ?_ _ | refine blH ?_ | refine blI ?_ ?_ _) | (simp only [World.size_alloc]; omega) | (simp <;> omega)))) BD.out hv)).mono ?_); rintro e w' ⟨z, rfl, hz, rfl⟩) | (go_at_call 15; (with_reducible refine (Kin.callK (W := ((W.alloc (.cells #[.slice A nA cA, .int .i64 k, .int .i64 cx, .int .i64 cy] 40)).alloc (.cells #[.int .i64 cx, .int .i64 cy] 38))) (by repeat (first | with_reducible (first | exact blA | exact blB | refine blC _ ?_ | refine blD ?_ ?_ _ | refine blE ?_ | refine blF _ ?_ | refine blG ?_ _ | refine blH ?_ | refine blI ?_ ?_ _) | (simp only [World.size_alloc]; omega) | (simp <;> omega))) (awake20_any _)).mono ?_); rintro e w' ⟨z, rfl, hz, rfl⟩))
    go_ret
    exact ⟨rfl, (by repeat (first | with_reducible (first | exact blA | exact blB | refine blC _ ?_ | refine blD ?_ ?_ _ | refine blE ?_ | refine blF _ ?_ | refine blG ?_ _ | refine blH ?_ | refine blI ?_ ?_ _) | (simp only [World.size_alloc]; omega) | (simp <;> omega)))⟩
  by_cases hy1 : cy ≤ 5000
  rotate_left
  · go_enter Try.func10, Try.ntmps10
    go_wp2_with (first | (go_at_call 14; (with_reducible refine (Kin.callK (W := ((W.alloc (.cells #[.slice A nA cA, .int .i64 k, .int .i64 cx, .int .i64 cy] 40)).alloc (.cells #[.int .i64 cx, .int .i64 cy] 38))) (by repeat (first | with_reducible (first | exact blA | exact blB | refine blC _ ?_ | refine blD ?_ ?_ _ | refine blE ?_ | refine blF _ ?_ | refine blG ?_ _ | refine blH ?_ | refine blI ?_ ?_ _) | (simp only [World.size_alloc]; omega) | (simp <;> omega))) (heavy_is _ r _ (H.out.below (by repeat (first | with_reducible (first | exact blA | exact blB | refine blC _ ?_ | refine blD ?_ ?_ _ | refine blE ?_ | refine blF _ ?_ | refine blG ?_ _ | refine blH ?_ | refine blI ?_ ?_ _) | (simp only [World.size_alloc]; omega) | (simp <;> omega)))) BD.out hh)).mono ?_); rintro e w' ⟨z, rfl, hz, rfl⟩) | (go_at_call 31; (with_reducible refine (Kin.callK (W := ((W.alloc (.cells #[.slice A nA cA, .int .i64 k, .int .i64 cx, .int .i64 cy] 40)).alloc (.cells #[.int .i64 cx, .int .i64 cy] 38))) (by repeat (first | with_reducible (first | exact blA | exact blB | refine blC _ ?_ | refine blD ?_ ?_ _ | refine blE ?_ | refine blF _ ?_ | refine blG ?_ _ | refine blH ?_ | refine blI ?_ ?_ _) | (simp only [World.size_alloc]; omega) | (simp <;> omega))) (valid18_is _ r _ (H.out.below (by repeat (first | with_reducible (first | exact blA | exact blB | refine blC _ ?_ | refine blD ?_ ?_ _ | refine blE ?_ | refine blF _ ?_ | refine blG ?_ _ | refine blH ?_ | refine blI ?_ ?_ _) | (simp only [World.size_alloc]; omega) | (simp <;> omega)))) BD.out hv)).mono ?_); rintro e w' ⟨z, rfl, hz, rfl⟩) | (go_at_call 15; (with_reducible refine (Kin.callK (W := ((W.alloc (.cells #[.slice A nA cA, .int .i64 k, .int .i64 cx, .int .i64 cy] 40)).alloc (.cells #[.int .i64 cx, .int .i64 cy] 38))) (by repeat (first | with_reducible (first | exact blA | exact blB | refine blC _ ?_ | refine blD ?_ ?_ _ | refine blE ?_ | refine blF _ ?_ | refine blG ?_ _ | refine blH ?_ | refine blI ?_ ?_ _) | (simp only [World.size_alloc]; omega) | (simp <;> omega))) (awake20_any _)).mono ?_); rintro e w' ⟨z, rfl, hz, rfl⟩))
    go_ret
    exact ⟨rfl, (by repeat (first | with_reducible (first | exact blA | exact blB | refine blC _ ?_ | refine blD ?_ ?_ _ | refine blE ?_ | refine blF _ ?_ | refine blG ?_ _ | refine blH ?_ | refine blI ?_ ?_ _) | (simp only [World.size_alloc]; omega) | (simp <;> omega)))⟩
  have HV := Lib.hid hv
  have hr := reach_iff.2 ⟨hk0, show k ≤ 64 by omega⟩
  have HAL := Lib.hid (all_di hr hv cx cy)
  clear hr hk hx hy
  have hwk : IntKind.i64.wrap (-k) = -k := IntWalk.i64_in _ (by omega)
  go_enter Try.func10, Try.ntmps10
  go_wp2_with (first | (go_at_call 14; (with_reducible refine (Kin.callK (W := ((W.alloc (.cells #[.slice A nA cA, .int .i64 k, .int .i64 cx, .int .i64 cy] 40)).alloc (.cells #[.int .i64 cx, .int .i64 cy] 38))) (by repeat (first | with_reducible (first | exact blA | exact blB | refine blC _ ?_ | refine blD ?_ ?_ _ | refine blE ?_ | refine blF _ ?_ | refine blG ?_ _ | refine blH ?_ | refine blI ?_ ?_ _) | (simp only [World.size_alloc]; omega) | (simp <;> omega))) (heavy_is _ r _ (H.out.below (by repeat (first | with_reducible (first | exact blA | exact blB | refine blC _ ?_ | refine blD ?_ ?_ _ | refine blE ?_ | refine blF _ ?_ | refine blG ?_ _ | refine blH ?_ | refine blI ?_ ?_ _) | (simp only [World.size_alloc]; omega) | (simp <;> omega)))) BD.out hh)).mono ?_); rintro e w' ⟨z, rfl, hz, rfl⟩) | (go_at_call 31; (with_reducible refine (Kin.callK (W := ((W.alloc (.cells #[.slice A nA cA, .int .i64 k, .int .i64 cx, .int .i64 cy] 40)).alloc (.cells #[.int .i64 cx, .int .i64 cy] 38))) (by repeat (first | with_reducible (first | exact blA | exact blB | refine blC _ ?_ | refine blD ?_ ?_ _ | refine blE ?_ | refine blF _ ?_ | refine blG ?_ _ | refine blH ?_ | refine blI ?_ ?_ _) | (simp only [World.size_alloc]; omega) | (simp <;> omega))) (valid18_is _ r _ (H.out.below (by repeat (first | with_reducible (first | exact blA | exact blB | refine blC _ ?_ | refine blD ?_ ?_ _ | refine blE ?_ | refine blF _ ?_ | refine blG ?_ _ | refine blH ?_ | refine blI ?_ ?_ _) | (simp only [World.size_alloc]; omega) | (simp <;> omega)))) BD.out hv)).mono ?_); rintro e w' ⟨z, rfl, hz, rfl⟩))
  have P0 := Lib.hid z.boxes2.1
  have PC := Lib.hid z.boxes2.2
  have Q0 := Lib.hid (H.out.below (show Below W.heap.size W z.1 from (by repeat (first | with_reducible (first | exact blA | exact blB | refine blC _ ?_ | refine blD ?_ ?_ _ | refine blE ?_ | refine blF _ ?_ | refine blG ?_ _ | refine blH ?_ | refine blI ?_ ?_ _) | (simp only [World.size_alloc]; omega) | (simp <;> omega)))))
  obtain ⟨y0, hX⟩ : ∃ y : Kin W, y.1 = z.1 := ⟨⟨z.1, (by repeat (first | with_reducible (first | exact blA | exact blB | refine blC _ ?_ | refine blD ?_ ?_ _ | refine blE ?_ | refine blF _ ?_ | refine blG ?_ _ | refine blH ?_ | refine blI ?_ ?_ _) | (simp only [World.size_alloc]; omega) | (simp <;> omega)))⟩, rfl⟩
  rw [← hX] at P0 PC Q0 ⊢
  clear hX hz
  have k0 : y0.1.cell? ⟨W.heap.size, 0, none⟩ = some (.slice A nA cA) := P0.out.cell 0
  have k1 : y0.1.cell? ⟨W.heap.size, 1, none⟩ = some (.int .i64 k) := P0.out.cell 1
  have k2 : y0.1.cell? ⟨W.heap.size + 1, 0, none⟩ = some (.int .i64 cx) := PC.out.cell 0
  have k3 : y0.1.cell? ⟨W.heap.size + 1, 1, none⟩ = some (.int .i64 cy) := PC.out.cell 1
  have l0 := P0.out.lt
  have l1 := PC.out.lt
  go_loopw [4, 5, 6] (fun s a i wr => ∃ n : Nat, n ≤ (2 * k + 1).toNat ∧ i = .int .i64 (-k + (n : Int)) ∧ s = .bool (someY r cx cy k (fun d => k - max d (-d)) n) ∧ a = .bool (allY r cx cy k (fun d => k - max d (-d)) n) ∧ ∃ z : Kin y0.1, z.1 = wr) (fun _ _ i _ => (k + 1 - intOf i).toNat)
  case atStart => exact ⟨0, Nat.zero_le _, by simp, by simp [someY], by simp [allY], ⟨_, Below.refl _ _⟩, rfl⟩
  case round =>
    obtain ⟨n, hn, rfl, rfl, rfl, z1, rfl⟩ := hrel
    by_cases hlt : -k + (n : Int) ≤ k
    · have hwn : IntKind.i64.wrap (-k + (n : Int) + 1) = -k + (n : Int) + 1 := IntWalk.i64_in _ (by omega)
      have hwy : IntKind.i64.wrap (cy + (-k + (n : Int))) = cy + (-k + (n : Int)) := IntWalk.i64_in _ (by omega)
      have hwm : IntKind.i64.wrap (-(-k + (n : Int))) = -(-k + (n : Int)) := IntWalk.i64_in _ (by omega)
      obtain ⟨g, hg⟩ : ∃ g : Int, k - max (-k + (n : Int)) (-(-k + (n : Int))) = g := ⟨_, rfl⟩
      have hg1 : 0 ≤ g := by omega
      have hg2 : g ≤ 6 := by omega
      have hwg : IntKind.i64.wrap (k - max (-k + (n : Int)) (-(-k + (n : Int)))) = g := by rw [hg]; exact IntWalk.i64_in _ (by omega)
      have hwg2 : IntKind.i64.wrap (-g) = -g := IntWalk.i64_in _ (by omega)
      have HG := Lib.hid hg
      have HSY := Lib.hid (someY_succ r cx cy k (fun d => k - max d (-d)) n (d := g) (HG.out))
      have HAY := Lib.hid (allY_succ r cx cy k (fun d => k - max d (-d)) n (d := g) (HG.out))
      clear hg
      go_wp2
      go_loopw [4, 5, 8] (fun s a i wr => ∃ m : Nat, m ≤ (2 * g + 1).toNat ∧ i = .int .i64 (-g + (m : Int)) ∧ s = .bool (someY r cx cy k (fun d => k - max d (-d)) n || someX r cx (cy + (-k + (n : Int))) g m) ∧ a = .bool (allY r cx cy k (fun d => k - max d (-d)) n && allX r cx (cy + (-k + (n : Int))) g m) ∧ ∃ z : Kin y0.1, z.1 = wr) (fun _ _ i _ => (g + 1 - intOf i).toNat)
      case atStart => exact ⟨0, Nat.zero_le _, by simp, by simp [someX], by simp [allX], z1, rfl⟩
      case round =>
        obtain ⟨m, hm, rfl, rfl, rfl, z2, rfl⟩ := hrel
        by_cases hlt2 : -g + (m : Int) ≤ g
        · have hwm2 : IntKind.i64.wrap (-g + (m : Int) + 1) = -g + (m : Int) + 1 := IntWalk.i64_in _ (by omega)
          have hwx : IntKind.i64.wrap (cx + (-g + (m : Int))) = cx + (-g + (m : Int)) := IntWalk.i64_in _ (by omega)
          cases hs : (someY r cx cy k (fun d => k - max d (-d)) n || someX r cx (cy + (-k + (n : Int))) g m) <;> cases ha : (allY r cx cy k (fun d => k - max d (-d)) n && allX r cx (cy + (-k + (n : Int))) g m) <;> cases hb : memC r (cx + (-g + (m : Int))) (cy + (-k + (n : Int)))
          all_goals
            have HB := Lib.hid (show (rvalid r && memC r (cx + (-g + (m : Int))) (cy + (-k + (n : Int)))) = _ from by rw [HV.out, Bool.true_and, hb])
            have HS := Lib.hid (show (someY r cx cy k (fun d => k - max d (-d)) n || someX r cx (cy + (-k + (n : Int))) g (m + 1)) = _ from by rw [someX_succ, ← Bool.or_assoc, hs, hb])
            have HA := Lib.hid (show (allY r cx cy k (fun d => k - max d (-d)) n && allX r cx (cy + (-k + (n : Int))) g (m + 1)) = _ from by rw [allX_succ, ← Bool.and_assoc, ha, hb])
            clear hs ha hb
            go_wp2_with (go_at_call 33; (with_reducible refine (Kin.callK (W := (Kin.wd y0)) (by repeat (first | with_reducible (first | exact blA | exact blB | refine blC _ ?_ | refine blD ?_ ?_ _ | refine blE ?_ | refine blF _ ?_ | refine blG ?_ _ | refine blH ?_ | refine blI ?_ ?_ _) | (simp only [World.size_alloc]; omega) | (simp <;> omega))) (contains18_is _ r (cx + (-g + (m : Int))) (cy + (-k + (n : Int))) _ (Q0.out.below (by repeat (first | with_reducible (first | exact blA | exact blB | refine blC _ ?_ | refine blD ?_ ?_ _ | refine blE ?_ | refine blF _ ?_ | refine blG ?_ _ | refine blH ?_ | refine blI ?_ ?_ _) | (simp only [World.size_alloc]; omega) | (simp <;> omega)))) BD.out HB.out)).mono ?_); rintro e w' ⟨z6, rfl, hz6, rfl⟩; skip)
            go_roundw
            case rel => exact ⟨m + 1, by omega, by go_num, by rw [HS.out]; rfl, by rw [HA.out]; rfl, z6, rfl⟩
            case measure => simp [intOf]; omega
        · have e2 : m = (2 * g + 1).toNat := by omega
          have HS := Lib.hid (show (someY r cx cy k (fun d => k - max d (-d)) n || someX r cx (cy + (-k + (n : Int))) g m) = someY r cx cy k (fun d => k - max d (-d)) (n + 1) from by rw [HSY.out, e2])
          have HA := Lib.hid (show (allY r cx cy k (fun d => k - max d (-d)) n && allX r cx (cy + (-k + (n : Int))) g m) = allY r cx cy k (fun d => k - max d (-d)) (n + 1) from by rw [HAY.out, e2])
          clear e2
          go_wp2
          go_roundw
          case rel => exact ⟨n + 1, by omega, by go_num, by rw [HS.out], by rw [HA.out], z2, rfl⟩
          case measure => simp [intOf]; omega
    · have e2 : n = (2 * k + 1).toNat := by omega
      have HS := Lib.hid (show someY r cx cy k (fun d => k - max d (-d)) n = someY r cx cy k (fun d => k - max d (-d)) (2 * k + 1).toNat from by rw [e2])
      have HA := Lib.hid (show allY r cx cy k (fun d => k - max d (-d)) n = memC (ecrR r k) cx cy from by rw [e2]; exact HAL.out)
      clear e2
      have hwE : k ≤ 64 := by omega
      obtain ⟨q1, hs⟩ : ∃ q, someY r cx cy k (fun d => k - max d (-d)) n = q := ⟨_, rfl⟩
      obtain ⟨q2, ha⟩ : ∃ q, allY r cx cy k (fun d => k - max d (-d)) n = q := ⟨_, rfl⟩
      have hqq1 : (q1 == q1) = true := beq_self_eq_true _
      have hqq2 : (q2 == q2) = true := beq_self_eq_true _
      have HB2 := Lib.hid (show (rvalid (ecrR r k) && memC (ecrR r k) cx cy) = q2 from by rw [ecrR_valid, Bool.true_and, ← HA.out, ha])
      rw [hs, ha]
      by_cases hE : dilE r k = 0
      · have HB1 := Lib.hid (show (rvalid (dcrR r k) && memC (dcrR r k) cx cy) = q1 from by rw [dcrR_valid, Bool.true_and, ← some_di hE cx cy, ← HS.out, hs])
        have HE := Lib.hid hE
        clear hE hs ha
        go_wp2_with (go_at_call 27; (with_reducible refine (Kin.callK (W := (Kin.wd y0)) (by repeat (first | with_reducible (first | exact blA | exact blB | refine blC _ ?_ | refine blD ?_ ?_ _ | refine blE ?_ | refine blF _ ?_ | refine blG ?_ _ | refine blH ?_ | refine blI ?_ ?_ _) | (simp only [World.size_alloc]; omega) | (simp <;> omega))) (dcr_at _ r k _ (Q0.out.below (by repeat (first | with_reducible (first | exact blA | exact blB | refine blC _ ?_ | refine blD ?_ ?_ _ | refine blE ?_ | refine blF _ ?_ | refine blG ?_ _ | refine blH ?_ | refine blI ?_ ?_ _) | (simp only [World.size_alloc]; omega) | (simp <;> omega)))) BD.out HE.out rfl)).mono ?_); rintro e w' ⟨zb, ⟨A1, n1, c1, rfl, h2⟩, hz2, rfl⟩; (have H2 := Lib.hid h2; clear h2))
        obtain ⟨yd, hX⟩ : ∃ y : Kin W, y.1 = zb.1.alloc (.cells #[.slice A1 n1 c1] 24) := ⟨⟨zb.1.alloc (.cells #[.slice A1 n1 c1] 24), (by repeat (first | with_reducible (first | exact blA | exact blB | refine blC _ ?_ | refine blD ?_ ?_ _ | refine blE ?_ | refine blF _ ?_ | refine blG ?_ _ | refine blH ?_ | refine blI ?_ ?_ _) | (simp only [World.size_alloc]; omega) | (simp <;> omega)))⟩, rfl⟩
        rw [← hX]
        have PD := Lib.hid (show Blk yd.1 zb.1.heap.size 24 #[.slice A1 n1 c1] from hX ▸ Blk.new _ _ _)
        have QD := Lib.hid (show RdReg yd.1 (.agg #[.slice A1 n1 c1]) (dcrR r k) from hX ▸ H2.out.below (Below.alloc (Below.refl _ _) (Nat.le_refl _) _))
        have hby : Below y0.1.heap.size y0.1 yd.1 := by rw [hX]; exact (by repeat (first | with_reducible (first | exact blA | exact blB | refine blC _ ?_ | refine blD ?_ ?_ _ | refine blE ?_ | refine blF _ ?_ | refine blG ?_ _ | refine blH ?_ | refine blI ?_ ?_ _) | (simp only [World.size_alloc]; omega) | (simp <;> omega)))
        replace P0 := Lib.hid (P0.out.below hby)
        replace PC := Lib.hid (PC.out.below hby)
        replace Q0 := Lib.hid (Q0.out.below hby)
        generalize zb.1.heap.size = gd at PD ⊢
        clear hX hby H2 hz2 k0 k1 k2 k3 l0 l1
        have k0 : yd.1.cell? ⟨W.heap.size, 0, none⟩ = some (.slice A nA cA) := P0.out.cell 0
        have k1 : yd.1.cell? ⟨W.heap.size, 1, none⟩ = some (.int .i64 k) := P0.out.cell 1
        have k2 : yd.1.cell? ⟨W.heap.size + 1, 0, none⟩ = some (.int .i64 cx) := PC.out.cell 0
        have k3 : yd.1.cell? ⟨W.heap.size + 1, 1, none⟩ = some (.int .i64 cy) := PC.out.cell 1
        have k4 : yd.1.cell? ⟨gd, 0, none⟩ = some (.slice A1 n1 c1) := PD.out.cell 0
        have l0 := P0.out.lt
        have l1 := PC.out.lt
        have l2 := PD.out.lt
        go_wp2
        go_region_held (fun w' => w'.cell? ⟨W.heap.size, 0, none⟩ = some (.slice A nA cA) ∧ w'.cell? ⟨W.heap.size, 1, none⟩ = some (.int .i64 k) ∧ w'.cell? ⟨W.heap.size + 1, 0, none⟩ = some (.int .i64 cx) ∧ w'.cell? ⟨W.heap.size + 1, 1, none⟩ = some (.int .i64 cy) ∧ w'.cell? ⟨gd, 0, none⟩ = some (.slice A1 n1 c1)) (refine ⟨?_, ?_, ?_, ?_, ?_⟩ <;> first | assumption | (refine (Kin.cell (W := (Kin.wd yd)) _ ?_).trans ?_ <;> assumption) | simp [*, World.cell?_alloc_some, World.cell?_setCell_far] | ((refine (World.cell?_setCell_other (by simp)).trans ?_); first | assumption | simp [*])) (first
          | (go_at_call 34; (with_reducible refine (Kin.callK (W := (Kin.wd yd)) (by repeat (first | with_reducible (first | exact blA | exact blB | refine blC _ ?_ | refine blD ?_ ?_ _ | refine blE ?_ | refine blF _ ?_ | refine blG ?_ _ | refine blH ?_ | refine blI ?_ ?_ _) | (simp only [World.size_alloc]; omega) | (simp <;> omega))) (containsC_is _ (dcrR r k) cx cy _ (QD.out.below (by repeat (first | with_reducible (first | exact blA | exact blB | refine blC _ ?_ | refine blD ?_ ?_ _ | refine blE ?_ | refine blF _ ?_ | refine blG ?_ _ | refine blH ?_ | refine blI ?_ ?_ _) | (simp only [World.size_alloc]; omega) | (simp <;> omega)))) (rvalid_bd (dcrR_valid _ _)) HB1.out)).mono ?_); rintro e w' ⟨z, rfl, hz, rfl⟩; skip)
          | (go_at_call 29; (with_reducible refine (Kin.callK (W := (Kin.wd yd)) (by repeat (first | with_reducible (first | exact blA | exact blB | refine blC _ ?_ | refine blD ?_ ?_ _ | refine blE ?_ | refine blF _ ?_ | refine blG ?_ _ | refine blH ?_ | refine blI ?_ ?_ _) | (simp only [World.size_alloc]; omega) | (simp <;> omega))) (ecr_at _ r k _ (Q0.out.below (by repeat (first | with_reducible (first | exact blA | exact blB | refine blC _ ?_ | refine blD ?_ ?_ _ | refine blE ?_ | refine blF _ ?_ | refine blG ?_ _ | refine blH ?_ | refine blI ?_ ?_ _) | (simp only [World.size_alloc]; omega) | (simp <;> omega)))) BD.out rfl)).mono ?_); rintro e w' ⟨z4, ⟨EA, en, ec, rfl, h2⟩, hz, rfl⟩; (have J4 := Lib.hid h2; clear h2))
          | (go_at_call 34; (with_reducible refine (Kin.callK (W := (Kin.wd yd)) (by repeat (first | with_reducible (first | exact blA | exact blB | refine blC _ ?_ | refine blD ?_ ?_ _ | refine blE ?_ | refine blF _ ?_ | refine blG ?_ _ | refine blH ?_ | refine blI ?_ ?_ _) | (simp only [World.size_alloc]; omega) | (simp <;> omega))) (containsC_is _ (ecrR r k) cx cy _ (J4.out.below (by repeat (first | with_reducible (first | exact blA | exact blB | refine blC _ ?_ | refine blD ?_ ?_ _ | refine blE ?_ | refine blF _ ?_ | refine blG ?_ _ | refine blH ?_ | refine blI ?_ ?_ _) | (simp only [World.size_alloc]; omega) | (simp <;> omega)))) (rvalid_bd (ecrR_valid _ _)) HB2.out)).mono ?_); rintro e w' ⟨z, rfl, hz, rfl⟩; skip)
          | (go_at_call 15; (with_reducible refine (Kin.callK (W := (Kin.wd yd)) (by repeat (first | with_reducible (first | exact blA | exact blB | refine blC _ ?_ | refine blD ?_ ?_ _ | refine blE ?_ | refine blF _ ?_ | refine blG ?_ _ | refine blH ?_ | refine blI ?_ ?_ _) | (simp only [World.size_alloc]; omega) | (simp <;> omega))) (awake20_any _)).mono ?_); rintro e w' ⟨z, rfl, hz, rfl⟩))
        all_goals
          go_wp2
          go_ret
          exact ⟨rfl, (by repeat (first | with_reducible (first | exact blA | exact blB | refine blC _ ?_ | refine blD ?_ ?_ _ | refine blE ?_ | refine blF _ ?_ | refine blG ?_ _ | refine blH ?_ | refine blI ?_ ?_ _) | (simp only [World.size_alloc]; omega) | (simp <;> omega)))⟩
      · rcases dilE_three r k with hE2 | hE2 | hE2
        · exact absurd hE2 hE
        all_goals
          have HE := Lib.hid hE2
          clear hE hE2 hs ha
          go_wp2_with (go_at_call 27; (with_reducible refine (Kin.callK (W := (Kin.wd y0)) (by repeat (first | with_reducible (first | exact blA | exact blB | refine blC _ ?_ | refine blD ?_ ?_ _ | refine blE ?_ | refine blF _ ?_ | refine blG ?_ _ | refine blH ?_ | refine blI ?_ ?_ _) | (simp only [World.size_alloc]; omega) | (simp <;> omega))) (dcr_at _ r k _ (Q0.out.below (by repeat (first | with_reducible (first | exact blA | exact blB | refine blC _ ?_ | refine blD ?_ ?_ _ | refine blE ?_ | refine blF _ ?_ | refine blG ?_ _ | refine blH ?_ | refine blI ?_ ?_ _) | (simp only [World.size_alloc]; omega) | (simp <;> omega)))) BD.out HE.out rfl)).mono ?_); rintro e w' ⟨zb, ⟨A1, n1, c1, rfl, h2⟩, hz2, rfl⟩; (have H2 := Lib.hid h2; clear h2))
          obtain ⟨yd, hX⟩ : ∃ y : Kin W, y.1 = zb.1.alloc (.cells #[.slice A1 n1 c1] 24) := ⟨⟨zb.1.alloc (.cells #[.slice A1 n1 c1] 24), (by repeat (first | with_reducible (first | exact blA | exact blB | refine blC _ ?_ | refine blD ?_ ?_ _ | refine blE ?_ | refine blF _ ?_ | refine blG ?_ _ | refine blH ?_ | refine blI ?_ ?_ _) | (simp only [World.size_alloc]; omega) | (simp <;> omega)))⟩, rfl⟩
          rw [← hX]
          have PD := Lib.hid (show Blk yd.1 zb.1.heap.size 24 #[.slice A1 n1 c1] from hX ▸ Blk.new _ _ _)
          have QD := Lib.hid (show RdReg yd.1 (.agg #[.slice A1 n1 c1]) (dcrR r k) from hX ▸ H2.out.below (Below.alloc (Below.refl _ _) (Nat.le_refl _) _))
          have hby : Below y0.1.heap.size y0.1 yd.1 := by rw [hX]; exact (by repeat (first | with_reducible (first | exact blA | exact blB | refine blC _ ?_ | refine blD ?_ ?_ _ | refine blE ?_ | refine blF _ ?_ | refine blG ?_ _ | refine blH ?_ | refine blI ?_ ?_ _) | (simp only [World.size_alloc]; omega) | (simp <;> omega)))
          replace P0 := Lib.hid (P0.out.below hby)
          replace PC := Lib.hid (PC.out.below hby)
          replace Q0 := Lib.hid (Q0.out.below hby)
          generalize zb.1.heap.size = gd at PD ⊢
          clear hX hby H2 hz2 k0 k1 k2 k3 l0 l1
          have k0 : yd.1.cell? ⟨W.heap.size, 0, none⟩ = some (.slice A nA cA) := P0.out.cell 0
          have k1 : yd.1.cell? ⟨W.heap.size, 1, none⟩ = some (.int .i64 k) := P0.out.cell 1
          have k2 : yd.1.cell? ⟨W.heap.size + 1, 0, none⟩ = some (.int .i64 cx) := PC.out.cell 0
          have k3 : yd.1.cell? ⟨W.heap.size + 1, 1, none⟩ = some (.int .i64 cy) := PC.out.cell 1
          have k4 : yd.1.cell? ⟨gd, 0, none⟩ = some (.slice A1 n1 c1) := PD.out.cell 0
          have l0 := P0.out.lt
          have l1 := PC.out.lt
          have l2 := PD.out.lt
          go_wp2
          refine wp_region_held_drew (S := fun w' => w'.cell? ⟨W.heap.size, 0, none⟩ = some (.slice A nA cA) ∧ w'.cell? ⟨W.heap.size, 1, none⟩ = some (.int .i64 k) ∧ w'.cell? ⟨W.heap.size + 1, 0, none⟩ = some (.int .i64 cx) ∧ w'.cell? ⟨W.heap.size + 1, 1, none⟩ = some (.int .i64 cy)) (by kernel_rfl) ?_ (fun hHeld => ?_)
          · exact ⟨k0, k1, k2, k3⟩
          refine wpAnyH_take (i := 0) (v := ?_) rfl (by kernel_rfl) (by kernel_rfl) (by kernel_rfl) (fun _ _ _ h => h) (Or.inl ⟨by kernel_rfl, ?_⟩) (by assumption) ?_
          rotate_left
          · (intro w' hSw; (try dsimp only at hSw); go_simp; try with_reducible rfl)
          try simp only [List.getElem_toArray, List.getElem_cons_succ, List.getElem_cons_zero, Act.put, List.setIfInBounds_toArray, List.set_cons_zero, List.set_cons_succ]
          refine wpAnyH_take (i := 1) (v := ?_) rfl (by kernel_rfl) (by kernel_rfl) (by kernel_rfl) (fun _ _ _ h => h) (Or.inl ⟨by kernel_rfl, ?_⟩) (by assumption) ?_
          rotate_left
          · (intro w' hSw; (try dsimp only at hSw); go_simp; try with_reducible rfl)
          try simp only [List.getElem_toArray, List.getElem_cons_succ, List.getElem_cons_zero, Act.put, List.setIfInBounds_toArray, List.set_cons_zero, List.set_cons_succ]
          refine wpAnyH_take (i := 2) (v := ?_) rfl (by kernel_rfl) (by kernel_rfl) (by kernel_rfl) (fun _ _ _ h => h) (Or.inl ⟨by kernel_rfl, ?_⟩) (by assumption) ?_
          rotate_left
          · (intro w' hSw; (try dsimp only at hSw); go_simp; try with_reducible rfl)
          try simp only [List.getElem_toArray, List.getElem_cons_succ, List.getElem_cons_zero, Act.put, List.setIfInBounds_toArray, List.set_cons_zero, List.set_cons_succ]
          refine wpAnyH_take (i := 3) (v := undef) rfl (by kernel_rfl) (by kernel_rfl) (by kernel_rfl) (fun _ _ _ h => h) (Or.inr ⟨by kernel_rfl, rfl⟩) (by assumption) ?_
          try simp only [List.getElem_toArray, List.getElem_cons_succ, List.getElem_cons_zero, Act.put, List.setIfInBounds_toArray, List.set_cons_zero, List.set_cons_succ]
          refine wpAnyH_take (i := 4) (v := undef) rfl (by kernel_rfl) (by kernel_rfl) (by kernel_rfl) (fun _ _ _ h => h) (Or.inr ⟨by kernel_rfl, rfl⟩) (by assumption) ?_
          try simp only [List.getElem_toArray, List.getElem_cons_succ, List.getElem_cons_zero, Act.put, List.setIfInBounds_toArray, List.set_cons_zero, List.set_cons_succ]
          refine wpAnyH_take (i := 5) (v := undef) rfl (by kernel_rfl) (by kernel_rfl) (by kernel_rfl) (fun _ _ _ h => h) (Or.inr ⟨by kernel_rfl, rfl⟩) (by assumption) ?_
          try simp only [List.getElem_toArray, List.getElem_cons_succ, List.getElem_cons_zero, Act.put, List.setIfInBounds_toArray, List.set_cons_zero, List.set_cons_succ]
          refine wpAnyH_take (i := 6) (v := undef) rfl (by kernel_rfl) (by kernel_rfl) (by kernel_rfl) (fun _ _ _ h => h) (Or.inr ⟨by kernel_rfl, rfl⟩) (by assumption) ?_
          try simp only [List.getElem_toArray, List.getElem_cons_succ, List.getElem_cons_zero, Act.put, List.setIfInBounds_toArray, List.set_cons_zero, List.set_cons_succ]
          refine wpAnyH_take (i := 7) (v := undef) rfl (by kernel_rfl) (by kernel_rfl) (by kernel_rfl) (fun _ _ _ h => h) (Or.inr ⟨by kernel_rfl, rfl⟩) (by assumption) ?_
          try simp only [List.getElem_toArray, List.getElem_cons_succ, List.getElem_cons_zero, Act.put, List.setIfInBounds_toArray, List.set_cons_zero, List.set_cons_succ]
          refine wpAnyH_take (i := 8) (v := ?_) rfl (by kernel_rfl) (by kernel_rfl) (by kernel_rfl) (fun _ _ _ h => h) (Or.inl ⟨by kernel_rfl, ?_⟩) (by assumption) ?_
          rotate_left
          · (intro w' hSw; (try dsimp only at hSw); go_simp; try with_reducible rfl)
          try simp only [List.getElem_toArray, List.getElem_cons_succ, List.getElem_cons_zero, Act.put, List.setIfInBounds_toArray, List.set_cons_zero, List.set_cons_succ]
          refine wpAnyH_take (i := 9) (v := ?_) rfl (by kernel_rfl) (by kernel_rfl) (by kernel_rfl) (fun _ _ _ h => h) (Or.inl ⟨by kernel_rfl, ?_⟩) (by assumption) ?_
          rotate_left
          · (intro w' hSw; (try dsimp only at hSw); go_simp; try with_reducible rfl)
          try simp only [List.getElem_toArray, List.getElem_cons_succ, List.getElem_cons_zero, Act.put, List.setIfInBounds_toArray, List.set_cons_zero, List.set_cons_succ]
          refine wpAnyH_take (i := 10) (v := ?_) rfl (by kernel_rfl) (by kernel_rfl) (by kernel_rfl) (fun _ _ _ h => h) (Or.inl ⟨by kernel_rfl, ?_⟩) (by assumption) ?_
          rotate_left
          · (intro w' hSw; (try dsimp only at hSw); go_simp; try with_reducible rfl)
          try simp only [List.getElem_toArray, List.getElem_cons_succ, List.getElem_cons_zero, Act.put, List.setIfInBounds_toArray, List.set_cons_zero, List.set_cons_succ]
          refine wpAnyH_take (i := 11) (v := ?_) rfl (by kernel_rfl) (by kernel_rfl) (by kernel_rfl) (fun _ _ _ h => h) (Or.inl ⟨by kernel_rfl, ?_⟩) (by assumption) ?_
          rotate_left
          · (intro w' hSw; (try dsimp only at hSw); go_simp; try with_reducible rfl)
          try simp only [List.getElem_toArray, List.getElem_cons_succ, List.getElem_cons_zero, Act.put, List.setIfInBounds_toArray, List.set_cons_zero, List.set_cons_succ]
          refine wpAnyH_take (i := 12) (v := ?_) rfl (by kernel_rfl) (by kernel_rfl) (by kernel_rfl) (fun _ _ _ h => h) (Or.inl ⟨by kernel_rfl, ?_⟩) (by assumption) ?_
          rotate_left
          · (intro w' hSw; (try dsimp only at hSw); go_simp; try with_reducible rfl)
          try simp only [List.getElem_toArray, List.getElem_cons_succ, List.getElem_cons_zero, Act.put, List.setIfInBounds_toArray, List.set_cons_zero, List.set_cons_succ]
          refine wpAnyH_take (i := 13) (v := ?_) rfl (by kernel_rfl) (by kernel_rfl) (by kernel_rfl) (fun _ _ _ h => h) (Or.inl ⟨by kernel_rfl, ?_⟩) (by assumption) ?_
          rotate_left
          · (intro w' hSw; (try dsimp only at hSw); go_simp; try with_reducible rfl)
          try simp only [List.getElem_toArray, List.getElem_cons_succ, List.getElem_cons_zero, Act.put, List.setIfInBounds_toArray, List.set_cons_zero, List.set_cons_succ]
          refine wpAnyH_take (i := 15) (v := ?_) rfl (by kernel_rfl) (by kernel_rfl) (by kernel_rfl) (fun _ _ _ h => h) (Or.inl ⟨by kernel_rfl, ?_⟩) (by assumption) ?_
          rotate_left
          · (intro w' hSw; (try dsimp only at hSw); go_simp; try with_reducible rfl)
          try simp only [List.getElem_toArray, List.getElem_cons_succ, List.getElem_cons_zero, Act.put, List.setIfInBounds_toArray, List.set_cons_zero, List.set_cons_succ]
          refine wpAnyH_take (i := 17) (v := ?_) rfl (by kernel_rfl) (by kernel_rfl) (by kernel_rfl) (fun _ _ _ h => h) (Or.inl ⟨by kernel_rfl, ?_⟩) (by assumption) ?_
          rotate_left
          · (intro w' hSw; (try dsimp only at hSw); go_simp; try with_reducible rfl)
          try simp only [List.getElem_toArray, List.getElem_cons_succ, List.getElem_cons_zero, Act.put, List.setIfInBounds_toArray, List.set_cons_zero, List.set_cons_succ]
          refine wpAnyH_ready (rs := [14]) (by kernel_rfl) (by simp) (AllReadyH.cons rfl (fun K hK => ?_) AllReadyH.nil)
          go_simp
          (go_at_call 29; (with_reducible refine (Kin.callK (W := (Kin.wd yd)) (by repeat (first | with_reducible (first | exact blA | exact blB | refine blC _ ?_ | refine blD ?_ ?_ _ | refine blE ?_ | refine blF _ ?_ | refine blG ?_ _ | refine blH ?_ | refine blI ?_ ?_ _) | (simp only [World.size_alloc]; omega) | (simp <;> omega))) (ecr_at _ r k _ (Q0.out.below (by repeat (first | with_reducible (first | exact blA | exact blB | refine blC _ ?_ | refine blD ?_ ?_ _ | refine blE ?_ | refine blF _ ?_ | refine blG ?_ _ | refine blH ?_ | refine blI ?_ ?_ _) | (simp only [World.size_alloc]; omega) | (simp <;> omega)))) BD.out rfl)).mono ?_); rintro e w' ⟨z4, ⟨EA, en, ec, rfl, h2⟩, hz, rfl⟩; (have J4 := Lib.hid h2; clear h2))
          refine hK.out _ _ ⟨(z4.cell l0).trans k0, (z4.cell l0).trans k1, (z4.cell l1).trans k2, (z4.cell l1).trans k3⟩ (fun hHeld2 => ?_)
          clear hK hHeld
          have hHeld := hHeld2
          clear hHeld2 K
          try simp only [List.getElem_toArray, List.getElem_cons_succ, List.getElem_cons_zero, Act.put, List.setIfInBounds_toArray, List.set_cons_zero, List.set_cons_succ]
          refine wpAnyH_ready (rs := [16]) (by kernel_rfl) (by simp) (AllReadyH.cons rfl (fun K hK => ?_) AllReadyH.nil)
          go_simp
          (go_at_call 34; (with_reducible refine (Kin.callK (W := (Kin.wd yd)) (by repeat (first | with_reducible (first | exact blA | exact blB | refine blC _ ?_ | refine blD ?_ ?_ _ | refine blE ?_ | refine blF _ ?_ | refine blG ?_ _ | refine blH ?_ | refine blI ?_ ?_ _) | (simp only [World.size_alloc]; omega) | (simp <;> omega))) (containsC_is _ (ecrR r k) cx cy _ (J4.out.below (by repeat (first | with_reducible (first | exact blA | exact blB | refine blC _ ?_ | refine blD ?_ ?_ _ | refine blE ?_ | refine blF _ ?_ | refine blG ?_ _ | refine blH ?_ | refine blI ?_ ?_ _) | (simp only [World.size_alloc]; omega) | (simp <;> omega)))) (rvalid_bd (ecrR_valid _ _)) HB2.out)).mono ?_); rintro e w' ⟨z5, rfl, hz, rfl⟩; skip)
          refine hK.out _ _ ⟨(z5.cell l0).trans k0, (z5.cell l0).trans k1, (z5.cell l1).trans k2, (z5.cell l1).trans k3⟩ (fun hHeld2 => ?_)
          clear hK hHeld
          have hHeld := hHeld2
          clear hHeld2 K
          try simp only [List.getElem_toArray, List.getElem_cons_succ, List.getElem_cons_zero, Act.put, List.setIfInBounds_toArray, List.set_cons_zero, List.set_cons_succ]
          refine wpAnyH_take (i := 18) (v := ?_) rfl (by kernel_rfl) (by kernel_rfl) (by kernel_rfl) (fun _ _ _ h => h) (Or.inl ⟨by kernel_rfl, ?_⟩) (by assumption) ?_
          rotate_left
          · (intro w' hSw; (try dsimp only at hSw); go_simp; try with_reducible rfl)
          try simp only [List.getElem_toArray, List.getElem_cons_succ, List.getElem_cons_zero, Act.put, List.setIfInBounds_toArray, List.set_cons_zero, List.set_cons_succ]
          refine wpAnyH_take (i := 19) (v := ?_) rfl (by kernel_rfl) (by kernel_rfl) (by kernel_rfl) (fun _ _ _ h => h) (Or.inl ⟨by kernel_rfl, ?_⟩) (by assumption) ?_
          rotate_left
          · (intro w' hSw; (try dsimp only at hSw); go_simp; try with_reducible rfl)
          try simp only [List.getElem_toArray, List.getElem_cons_succ, List.getElem_cons_zero, Act.put, List.setIfInBounds_toArray, List.set_cons_zero, List.set_cons_succ]
          refine wpAnyH_take (i := 20) (v := ?_) rfl (by kernel_rfl) (by kernel_rfl) (by kernel_rfl) (fun _ _ _ h => h) (Or.inl ⟨by kernel_rfl, ?_⟩) (by assumption) ?_
          rotate_left
          · (intro w' hSw; (try dsimp only at hSw); go_simp; try with_reducible rfl)
          try simp only [List.getElem_toArray, List.getElem_cons_succ, List.getElem_cons_zero, Act.put, List.setIfInBounds_toArray, List.set_cons_zero, List.set_cons_succ]
          refine wpAnyH_ready (rs := [21]) (by kernel_rfl) (by simp) (AllReadyH.cons rfl (fun K hK => ?_) AllReadyH.nil)
          go_simp
          (go_at_call 15; (with_reducible refine (Kin.callK (W := (Kin.wd yd)) (by repeat (first | with_reducible (first | exact blA | exact blB | refine blC _ ?_ | refine blD ?_ ?_ _ | refine blE ?_ | refine blF _ ?_ | refine blG ?_ _ | refine blH ?_ | refine blI ?_ ?_ _) | (simp only [World.size_alloc]; omega) | (simp <;> omega))) (awake20_any _)).mono ?_); rintro e w' ⟨z6, rfl, hz, rfl⟩; skip)
          refine hK.out _ _ ⟨(z6.cell l0).trans k0, (z6.cell l0).trans k1, (z6.cell l1).trans k2, (z6.cell l1).trans k3⟩ (fun hHeld2 => ?_)
          clear hK hHeld
          have hHeld := hHeld2
          clear hHeld2 K
          try simp only [List.getElem_toArray, List.getElem_cons_succ, List.getElem_cons_zero, Act.put, List.setIfInBounds_toArray, List.set_cons_zero, List.set_cons_succ]
          refine wpAnyH_take (i := 22) (v := ?_) rfl (by kernel_rfl) (by kernel_rfl) (by kernel_rfl) (fun _ _ _ h => h) (Or.inl ⟨by kernel_rfl, ?_⟩) (by assumption) ?_
          rotate_left
          · (intro w' hSw; (try dsimp only at hSw); go_simp; try with_reducible rfl)
          try simp only [List.getElem_toArray, List.getElem_cons_succ, List.getElem_cons_zero, Act.put, List.setIfInBounds_toArray, List.set_cons_zero, List.set_cons_succ]
          refine wpAnyH_take (i := 23) (v := ?_) rfl (by kernel_rfl) (by kernel_rfl) (by kernel_rfl) (fun _ _ _ h => h) (Or.inl ⟨by kernel_rfl, ?_⟩) (by assumption) ?_
          rotate_left
          · (intro w' hSw; (try dsimp only at hSw); go_simp; try with_reducible rfl)
          try simp only [List.getElem_toArray, List.getElem_cons_succ, List.getElem_cons_zero, Act.put, List.setIfInBounds_toArray, List.set_cons_zero, List.set_cons_succ]
          refine wpAnyH_done (by kernel_rfl) ?_ _
          go_wp2
          go_ret
          refine ⟨?_, (by repeat (first | with_reducible (first | exact blA | exact blB | refine blC _ ?_ | refine blD ?_ ?_ _ | refine blE ?_ | refine blF _ ?_ | refine blG ?_ _ | refine blH ?_ | refine blI ?_ ?_ _) | (simp only [World.size_alloc]; omega) | (simp <;> omega)))⟩
          first | rfl | (simp [hqq2]; done) | (simp [Act.put, hqq2]; done)
set_option maxRecDepth 100000 in
theorem morphDiamonds_lifted (os : Os) (started : os.Started) (H : Type) (enc : TypeId × Value → H) :
    ReturnsInHanded {} Try.checked os 10 .any (Rows.morphDiamondsSpec.pre6 enc Try.prog Try.f10 Rows.morphDiamondsRow.domain false) (Rows.morphDiamondsSpec.post enc Try.prog Try.f10 false true false false) := by
  refine returnsInHanded_of_change (C := Try.checked) own started (by kernel_rfl) Try.func10
    (ChangeSpec.witness6 (enc := enc) (C := Try.checked) false ⟨#[], #[.agg #[.slice none 0 0, .int .i64 0, .int .i64 0, .int .i64 0]], []⟩ 8 (by kernel_rfl) (by kernel_rfl) (by kernel_rfl) (by kernel_rfl)) ?_
  intro W base args ds gs before hval0 hW hcnd _
  have hval : ∀ (j : Nat) t v, Try.f10.params[j]? = some t → args[j]? = some v → Value.okWide Try.prog W .any base t v := hval0
  have hW' := hW
  obtain ⟨p, q, hA0, hV, rfl, hfz, hnd⟩ := hW
  have hA : DataW.TrodAll enc Try.prog W 0 (fun _ => true) true Try.f10.params.toList args.toList ds p := hA0
  rw [Try.params10] at hA hval
  have hAA := hA
  obtain ⟨v0, vs0, d0, ds0, p0, q0, hargs, rfl, rfl, h0, r0⟩ := trodAll_cons hA
  obtain ⟨rfl, rfl, rfl⟩ := trodAll_nil r0
  obtain rfl : args = #[v0] := by cases args; simp_all
  obtain ⟨rfl, rfl⟩ := trodVars_none hV
  have o0 := open_near (hval 0 40 v0 rfl rfl) h0
  have hlt : ∀ x ∈ p0 ++ [], x.block < W.heap.size := fun x hx => hW'.lt x (by simpa using hx)
  refine (morphDiamonds_walk W _ o0).mono fun e W' ⟨he, bel⟩ => ?_
  subst he
  exact ⟨_, rfl, _, _, _, [], _, [], hW', trodAll_mk1 (shut_bool Try.underlying4 _), below_trodAll laidOut bel _ _ _ _ (by
    intro t ht
    have hcl : ([40] : List TypeId).all (fun t => Try.prog.readableRec t && decide (t < Try.prog.types.size)) = true := by kernel_rfl
    have := List.all_eq_true.1 hcl t ht
    simpa using this) hlt hAA, rfl, bel.frame _, fun h => by cases h⟩
theorem morphDiamonds_heard : (Try.checked.prog.stopsHeard = true ∧ Try.checked.prog.mayEnter = true) ∧ Try.checked.prog.liftsFinal = Rows.morphDiamondsRow.lifted := ⟨⟨by kernel_rfl, by kernel_rfl⟩, by kernel_rfl⟩
theorem morphDiamonds_calls : (Try.checked.prog.inPlace 10 = Rows.morphDiamondsRow.inPlace ∧ Try.checked.prog.unfollowed 10 = Rows.morphDiamondsRow.unfollowed) ∧ (Try.checked.prog.recurses 10 = Rows.morphDiamondsRow.recurses ∧ Try.checked.prog.varsNamed 10 = Rows.morphDiamondsRow.named) := ⟨⟨by kernel_rfl, by kernel_rfl⟩, ⟨by kernel_rfl, by kernel_rfl⟩⟩
theorem morphDiamonds_closed : joinedFacts Try.checked.prog 10 Try.f10 Rows.morphDiamondsSpec Rows.morphDiamondsRow = true := by
  unfold joinedFacts
  rw [morphDiamonds_calls.1.1, morphDiamonds_calls.1.2, morphDiamonds_calls.2.1, morphDiamonds_calls.2.2, morphDiamonds_heard.1.1, morphDiamonds_heard.1.2, morphDiamonds_heard.2]
  kernel_rfl
/-- MorphDiamonds: for every input the call returns true, and the arguments read behind it as before. No condition. -/
theorem morphDiamonds_holds : Rows.MorphDiamondsSaid :=
  OpenClaim.holds_of_wide 10 Try.f10 rfl rfl rfl rfl rfl rfl rfl ⟨rfl, rfl, rfl, rfl, rfl⟩ rfl rfl rfl rfl rfl (by kernel_rfl) Try.func10 morphDiamonds_closed
    (of_decide_eq_true (by kernel_rfl)) (by unfold Func.isWrapper; rw [if_neg (of_decide_eq_false (by kernel_rfl))]; exact ⟨rfl, rfl⟩)
    (fun os started H enc _ => morphDiamonds_lifted os started H enc)

end Go.Proofs.Ytjppaknajdbkgaa

/- The chapter's Steps, Reverse, Turned, and the program's Steps, walked. -/
import Derived.Test.YtomndgjnhhchdaaTrkRot
namespace Go.Proofs.Ytomndgjnhhchdaa
set_option linter.unusedSimpArgs false
set_option linter.unusedVariables false
set_option maxRecDepth 100000
open Go.RowKit Trk
attribute [local go_sem] Kin.cell Kin.frozen Kin.lt0 Kin.lt1 Kin.lt2 Kin.lt3
set_option maxHeartbeats 4000000 in
theorem stepsT_any (r : Int) (cl : Bool) (A : Option Addr) (cap : Nat) (l : List Cl) (w : World) (h : Rd 2 encPt w (.slice A l.length cap) l) :
    Calls Try.prog 13 #[tv r cl A l.length cap] w fun e w' => e = .returned (.int .i64 (stepsT ((r, cl), l))) ∧ Below w.heap.size w w' := by
  obtain ⟨n, hL⟩ : ∃ n, l.length = n := ⟨_, rfl⟩
  have HL := Lib.hid hL
  have HA := Lib.hid h
  rw [hL] at h HA ⊢
  clear h hL
  cases hv : tval ((r, cl), l)
  · have HR := Lib.hid (show stepsT ((r, cl), l) = 0 by unfold stepsT; rw [hv]; rfl)
    go_enter Try.func13, Try.ntmps13
    go_wp2_with (go_at_call 11; (with_reducible refine (Kin.callK (W := (w.alloc (.cells #[.int .i64 r, .bool cl, .slice A n cap] 24))) (by repeat (first | with_reducible (first | exact blA | exact blB | refine blC _ ?_ | refine blD ?_ ?_ _ | refine blE ?_ | refine blF _ ?_ | refine blG ?_ _ | refine blH ?_ | refine blI ?_ ?_ _) | (simp only [World.size_alloc]; omega) | (simp <;> omega))) (validT_is r cl A cap l _ HL.out (HA.out.below (by repeat (first | with_reducible (first | exact blA | exact blB | refine blC _ ?_ | refine blD ?_ ?_ _ | refine blE ?_ | refine blF _ ?_ | refine blG ?_ _ | refine blH ?_ | refine blI ?_ ?_ _) | (simp only [World.size_alloc]; omega) | (simp <;> omega)))) hv)).mono ?_); rintro e w' ⟨z, rfl, hz, rfl⟩; skip)
    go_ret
    exact ⟨ret_int HR.out.symm, (by repeat (first | with_reducible (first | exact blA | exact blB | refine blC _ ?_ | refine blD ?_ ?_ _ | refine blE ?_ | refine blF _ ?_ | refine blG ?_ _ | refine blH ?_ | refine blI ?_ ?_ _) | (simp only [World.size_alloc]; omega) | (simp <;> omega)))⟩
  · have HR := Lib.hid (show stepsT ((r, cl), l) = if cl && decide (1 < n) then (n : Int) else (n : Int) - 1 by unfold stepsT; rw [hv, HL.out]; rfl)
    have hn : n ≤ 65536 := by have := (tval_len hv).2.2; have := HL.out; simp at *; omega
    have hw : IntKind.i64.wrap ((n : Int) - 1) = (n : Int) - 1 := IntWalk.i64_in _ (by omega)
    cases cl
    · go_enter Try.func13, Try.ntmps13
      go_wp2_with (go_at_call 11; (with_reducible refine (Kin.callK (W := (w.alloc (.cells #[.int .i64 r, .bool false, .slice A n cap] 24))) (by repeat (first | with_reducible (first | exact blA | exact blB | refine blC _ ?_ | refine blD ?_ ?_ _ | refine blE ?_ | refine blF _ ?_ | refine blG ?_ _ | refine blH ?_ | refine blI ?_ ?_ _) | (simp only [World.size_alloc]; omega) | (simp <;> omega))) (validT_is r false A cap l _ HL.out (HA.out.below (by repeat (first | with_reducible (first | exact blA | exact blB | refine blC _ ?_ | refine blD ?_ ?_ _ | refine blE ?_ | refine blF _ ?_ | refine blG ?_ _ | refine blH ?_ | refine blI ?_ ?_ _) | (simp only [World.size_alloc]; omega) | (simp <;> omega)))) hv)).mono ?_); rintro e w' ⟨z, rfl, hz, rfl⟩; (have B1 := Lib.hid ((Blk.new w 24 #[.int .i64 r, .bool false, .slice A n cap]).below z.2); have q1 : (Kin.wd z).cell? ⟨w.heap.size, 1, none⟩ = some (.bool false) := B1.out.cell 1; have ql := B1.out.lt))
      go_ret
      exact ⟨ret_int (by rw [HR.out]; rfl), (by repeat (first | with_reducible (first | exact blA | exact blB | refine blC _ ?_ | refine blD ?_ ?_ _ | refine blE ?_ | refine blF _ ?_ | refine blG ?_ _ | refine blH ?_ | refine blI ?_ ?_ _) | (simp only [World.size_alloc]; omega) | (simp <;> omega)))⟩
    · by_cases h1 : 1 < n
      · go_enter Try.func13, Try.ntmps13
        go_wp2_with (go_at_call 11; (with_reducible refine (Kin.callK (W := (w.alloc (.cells #[.int .i64 r, .bool true, .slice A n cap] 24))) (by repeat (first | with_reducible (first | exact blA | exact blB | refine blC _ ?_ | refine blD ?_ ?_ _ | refine blE ?_ | refine blF _ ?_ | refine blG ?_ _ | refine blH ?_ | refine blI ?_ ?_ _) | (simp only [World.size_alloc]; omega) | (simp <;> omega))) (validT_is r true A cap l _ HL.out (HA.out.below (by repeat (first | with_reducible (first | exact blA | exact blB | refine blC _ ?_ | refine blD ?_ ?_ _ | refine blE ?_ | refine blF _ ?_ | refine blG ?_ _ | refine blH ?_ | refine blI ?_ ?_ _) | (simp only [World.size_alloc]; omega) | (simp <;> omega)))) hv)).mono ?_); rintro e w' ⟨z, rfl, hz, rfl⟩; (have B1 := Lib.hid ((Blk.new w 24 #[.int .i64 r, .bool true, .slice A n cap]).below z.2); have q1 : (Kin.wd z).cell? ⟨w.heap.size, 1, none⟩ = some (.bool true) := B1.out.cell 1; have ql := B1.out.lt))
        go_ret
        exact ⟨ret_int (by rw [HR.out]; simp [h1]), (by repeat (first | with_reducible (first | exact blA | exact blB | refine blC _ ?_ | refine blD ?_ ?_ _ | refine blE ?_ | refine blF _ ?_ | refine blG ?_ _ | refine blH ?_ | refine blI ?_ ?_ _) | (simp only [World.size_alloc]; omega) | (simp <;> omega)))⟩
      · go_enter Try.func13, Try.ntmps13
        go_wp2_with (go_at_call 11; (with_reducible refine (Kin.callK (W := (w.alloc (.cells #[.int .i64 r, .bool true, .slice A n cap] 24))) (by repeat (first | with_reducible (first | exact blA | exact blB | refine blC _ ?_ | refine blD ?_ ?_ _ | refine blE ?_ | refine blF _ ?_ | refine blG ?_ _ | refine blH ?_ | refine blI ?_ ?_ _) | (simp only [World.size_alloc]; omega) | (simp <;> omega))) (validT_is r true A cap l _ HL.out (HA.out.below (by repeat (first | with_reducible (first | exact blA | exact blB | refine blC _ ?_ | refine blD ?_ ?_ _ | refine blE ?_ | refine blF _ ?_ | refine blG ?_ _ | refine blH ?_ | refine blI ?_ ?_ _) | (simp only [World.size_alloc]; omega) | (simp <;> omega)))) hv)).mono ?_); rintro e w' ⟨z, rfl, hz, rfl⟩; (have B1 := Lib.hid ((Blk.new w 24 #[.int .i64 r, .bool true, .slice A n cap]).below z.2); have q1 : (Kin.wd z).cell? ⟨w.heap.size, 1, none⟩ = some (.bool true) := B1.out.cell 1; have ql := B1.out.lt))
        go_ret
        exact ⟨ret_int (by rw [HR.out]; simp [h1]), (by repeat (first | with_reducible (first | exact blA | exact blB | refine blC _ ?_ | refine blD ?_ ?_ _ | refine blE ?_ | refine blF _ ?_ | refine blG ?_ _ | refine blH ?_ | refine blI ?_ ?_ _) | (simp only [World.size_alloc]; omega) | (simp <;> omega)))⟩
set_option maxHeartbeats 4000000 in
theorem stepsR_any (r : Int) (cl : Bool) (A : Option Addr) (cap : Nat) (l : List Cl) (w : World) (h : Rd 2 encPt w (.slice A l.length cap) l) :
    Calls Try.prog 14 #[tv r cl A l.length cap] w fun e w' => e = .returned (.int .i64 (stepsT ((r, cl), l))) ∧ Below w.heap.size w w' := by
  obtain ⟨n, hL⟩ : ∃ n, l.length = n := ⟨_, rfl⟩
  have HL := Lib.hid hL
  have HA := Lib.hid h
  rw [hL] at h HA ⊢
  clear h hL
  cases hv : tval ((r, cl), l)
  · have HR := Lib.hid (show stepsT ((r, cl), l) = 0 by unfold stepsT; rw [hv]; rfl)
    go_enter Try.func14, Try.ntmps14
    go_wp2_with (go_at_call 12; (with_reducible refine (Kin.callK (W := (w.alloc (.cells #[.int .i64 r, .bool cl, .slice A n cap] 24))) (by repeat (first | with_reducible (first | exact blA | exact blB | refine blC _ ?_ | refine blD ?_ ?_ _ | refine blE ?_ | refine blF _ ?_ | refine blG ?_ _ | refine blH ?_ | refine blI ?_ ?_ _) | (simp only [World.size_alloc]; omega) | (simp <;> omega))) (validR_is r cl A cap l _ HL.out (HA.out.below (by repeat (first | with_reducible (first | exact blA | exact blB | refine blC _ ?_ | refine blD ?_ ?_ _ | refine blE ?_ | refine blF _ ?_ | refine blG ?_ _ | refine blH ?_ | refine blI ?_ ?_ _) | (simp only [World.size_alloc]; omega) | (simp <;> omega)))) hv)).mono ?_); rintro e w' ⟨z, rfl, hz, rfl⟩; skip)
    go_ret
    exact ⟨ret_int HR.out.symm, (by repeat (first | with_reducible (first | exact blA | exact blB | refine blC _ ?_ | refine blD ?_ ?_ _ | refine blE ?_ | refine blF _ ?_ | refine blG ?_ _ | refine blH ?_ | refine blI ?_ ?_ _) | (simp only [World.size_alloc]; omega) | (simp <;> omega)))⟩
  · have HR := Lib.hid (show stepsT ((r, cl), l) = if cl && decide (1 < n) then (n : Int) else (n : Int) - 1 by unfold stepsT; rw [hv, HL.out]; rfl)
    have hn : n ≤ 65536 := by have := (tval_len hv).2.2; have := HL.out; simp at *; omega
    have hw : IntKind.i64.wrap ((n : Int) - 1) = (n : Int) - 1 := IntWalk.i64_in _ (by omega)
    cases cl
    · go_enter Try.func14, Try.ntmps14
      go_wp2_with (go_at_call 12; (with_reducible refine (Kin.callK (W := (w.alloc (.cells #[.int .i64 r, .bool false, .slice A n cap] 24))) (by repeat (first | with_reducible (first | exact blA | exact blB | refine blC _ ?_ | refine blD ?_ ?_ _ | refine blE ?_ | refine blF _ ?_ | refine blG ?_ _ | refine blH ?_ | refine blI ?_ ?_ _) | (simp only [World.size_alloc]; omega) | (simp <;> omega))) (validR_is r false A cap l _ HL.out (HA.out.below (by repeat (first | with_reducible (first | exact blA | exact blB | refine blC _ ?_ | refine blD ?_ ?_ _ | refine blE ?_ | refine blF _ ?_ | refine blG ?_ _ | refine blH ?_ | refine blI ?_ ?_ _) | (simp only [World.size_alloc]; omega) | (simp <;> omega)))) hv)).mono ?_); rintro e w' ⟨z, rfl, hz, rfl⟩; (have B1 := Lib.hid ((Blk.new w 24 #[.int .i64 r, .bool false, .slice A n cap]).below z.2); have q1 : (Kin.wd z).cell? ⟨w.heap.size, 1, none⟩ = some (.bool false) := B1.out.cell 1; have q2 : (Kin.wd z).cell? ⟨w.heap.size, 2, none⟩ = some (.slice A n cap) := B1.out.cell 2; have ql := B1.out.lt))
      go_ret
      exact ⟨ret_int (by rw [HR.out]; rfl), (by repeat (first | with_reducible (first | exact blA | exact blB | refine blC _ ?_ | refine blD ?_ ?_ _ | refine blE ?_ | refine blF _ ?_ | refine blG ?_ _ | refine blH ?_ | refine blI ?_ ?_ _) | (simp only [World.size_alloc]; omega) | (simp <;> omega)))⟩
    · by_cases h1 : 1 < n
      · go_enter Try.func14, Try.ntmps14
        go_wp2_with (go_at_call 12; (with_reducible refine (Kin.callK (W := (w.alloc (.cells #[.int .i64 r, .bool true, .slice A n cap] 24))) (by repeat (first | with_reducible (first | exact blA | exact blB | refine blC _ ?_ | refine blD ?_ ?_ _ | refine blE ?_ | refine blF _ ?_ | refine blG ?_ _ | refine blH ?_ | refine blI ?_ ?_ _) | (simp only [World.size_alloc]; omega) | (simp <;> omega))) (validR_is r true A cap l _ HL.out (HA.out.below (by repeat (first | with_reducible (first | exact blA | exact blB | refine blC _ ?_ | refine blD ?_ ?_ _ | refine blE ?_ | refine blF _ ?_ | refine blG ?_ _ | refine blH ?_ | refine blI ?_ ?_ _) | (simp only [World.size_alloc]; omega) | (simp <;> omega)))) hv)).mono ?_); rintro e w' ⟨z, rfl, hz, rfl⟩; (have B1 := Lib.hid ((Blk.new w 24 #[.int .i64 r, .bool true, .slice A n cap]).below z.2); have q1 : (Kin.wd z).cell? ⟨w.heap.size, 1, none⟩ = some (.bool true) := B1.out.cell 1; have q2 : (Kin.wd z).cell? ⟨w.heap.size, 2, none⟩ = some (.slice A n cap) := B1.out.cell 2; have ql := B1.out.lt))
        go_ret
        exact ⟨ret_int (by rw [HR.out]; simp [h1]), (by repeat (first | with_reducible (first | exact blA | exact blB | refine blC _ ?_ | refine blD ?_ ?_ _ | refine blE ?_ | refine blF _ ?_ | refine blG ?_ _ | refine blH ?_ | refine blI ?_ ?_ _) | (simp only [World.size_alloc]; omega) | (simp <;> omega)))⟩
      · go_enter Try.func14, Try.ntmps14
        go_wp2_with (go_at_call 12; (with_reducible refine (Kin.callK (W := (w.alloc (.cells #[.int .i64 r, .bool true, .slice A n cap] 24))) (by repeat (first | with_reducible (first | exact blA | exact blB | refine blC _ ?_ | refine blD ?_ ?_ _ | refine blE ?_ | refine blF _ ?_ | refine blG ?_ _ | refine blH ?_ | refine blI ?_ ?_ _) | (simp only [World.size_alloc]; omega) | (simp <;> omega))) (validR_is r true A cap l _ HL.out (HA.out.below (by repeat (first | with_reducible (first | exact blA | exact blB | refine blC _ ?_ | refine blD ?_ ?_ _ | refine blE ?_ | refine blF _ ?_ | refine blG ?_ _ | refine blH ?_ | refine blI ?_ ?_ _) | (simp only [World.size_alloc]; omega) | (simp <;> omega)))) hv)).mono ?_); rintro e w' ⟨z, rfl, hz, rfl⟩; (have B1 := Lib.hid ((Blk.new w 24 #[.int .i64 r, .bool true, .slice A n cap]).below z.2); have q1 : (Kin.wd z).cell? ⟨w.heap.size, 1, none⟩ = some (.bool true) := B1.out.cell 1; have q2 : (Kin.wd z).cell? ⟨w.heap.size, 2, none⟩ = some (.slice A n cap) := B1.out.cell 2; have ql := B1.out.lt))
        go_ret
        exact ⟨ret_int (by rw [HR.out]; simp [h1]), (by repeat (first | with_reducible (first | exact blA | exact blB | refine blC _ ?_ | refine blD ?_ ?_ _ | refine blE ?_ | refine blF _ ?_ | refine blG ?_ _ | refine blH ?_ | refine blI ?_ ?_ _) | (simp only [World.size_alloc]; omega) | (simp <;> omega)))⟩
end Go.Proofs.Ytomndgjnhhchdaa

/- The chapter's Steps, Reverse, Turned, and the program's Steps, walked. (joined: TrkRef TrkRefL) -/
import Derived.Test.YtomndgjnhhchdaaTrkRot
/- The chapter's Steps, Reverse, Turned, and the program's Steps, walked. -/
namespace Go.Proofs.Ytomndgjnhhchdaa
set_option linter.unusedSimpArgs false
set_option linter.unusedVariables false
set_option maxRecDepth 100000
open Go.RowKit Trk
attribute [local go_sem] Kin.cell Kin.frozen Kin.lt0 Kin.lt1 Kin.lt2 Kin.lt3
set_option maxHeartbeats 4000000 in
theorem stepsT_any (r : Int) (cl : Bool) (A : Option Addr) (cap : Nat) (l : List Cl) (w : World) (h : Rd 2 encPt w (.slice A l.length cap) l) :
    Calls Try.prog 13 #[tv r cl A l.length cap] w fun e w' => e = .returned (.int .i64 (stepsT ((r, cl), l))) ∧ Below w.heap.size w w' := by
  obtain ⟨n, hL⟩ : ∃ n, l.length = n := ⟨_, rfl⟩
  have HL := Lib.hid hL
  have HA := Lib.hid h
  rw [hL] at h HA ⊢
  clear h hL
  cases hv : tval ((r, cl), l)
  · have HR := Lib.hid (show stepsT ((r, cl), l) = 0 by unfold stepsT; rw [hv]; rfl)
    go_enter Try.func13, Try.ntmps13
    go_wp2_with (go_at_call 11; (with_reducible refine (Kin.callK (W := (w.alloc (.cells #[.int .i64 r, .bool cl, .slice A n cap] 24))) (by repeat (first | with_reducible (first | exact blA | exact blB | refine blC _ ?_ | refine blD ?_ ?_ _ | refine blE ?_ | refine blF _ ?_ | refine blG ?_ _ | refine blH ?_ | refine blI ?_ ?_ _) | (simp only [World.size_alloc]; omega) | (simp <;> omega))) (validT_is r cl A cap l _ HL.out (HA.out.below (by repeat (first | with_reducible (first | exact blA | exact blB | refine blC _ ?_ | refine blD ?_ ?_ _ | refine blE ?_ | refine blF _ ?_ | refine blG ?_ _ | refine blH ?_ | refine blI ?_ ?_ _) | (simp only [World.size_alloc]; omega) | (simp <;> omega)))) hv)).mono ?_); rintro e w' ⟨z, rfl, hz, rfl⟩; skip)
    go_ret
    exact ⟨ret_int HR.out.symm, (by repeat (first | with_reducible (first | exact blA | exact blB | refine blC _ ?_ | refine blD ?_ ?_ _ | refine blE ?_ | refine blF _ ?_ | refine blG ?_ _ | refine blH ?_ | refine blI ?_ ?_ _) | (simp only [World.size_alloc]; omega) | (simp <;> omega)))⟩
  · have HR := Lib.hid (show stepsT ((r, cl), l) = if cl && decide (1 < n) then (n : Int) else (n : Int) - 1 by unfold stepsT; rw [hv, HL.out]; rfl)
    have hn : n ≤ 65536 := by have := (tval_len hv).2.2; have := HL.out; simp at *; omega
    have hw : IntKind.i64.wrap ((n : Int) - 1) = (n : Int) - 1 := IntWalk.i64_in _ (by omega)
    cases cl
    · go_enter Try.func13, Try.ntmps13
      go_wp2_with (go_at_call 11; (with_reducible refine (Kin.callK (W := (w.alloc (.cells #[.int .i64 r, .bool false, .slice A n cap] 24))) (by repeat (first | with_reducible (first | exact blA | exact blB | refine blC _ ?_ | refine blD ?_ ?_ _ | refine blE ?_ | refine blF _ ?_ | refine blG ?_ _ | refine blH ?_ | refine blI ?_ ?_ _) | (simp only [World.size_alloc]; omega) | (simp <;> omega))) (validT_is r false A cap l _ HL.out (HA.out.below (by repeat (first | with_reducible (first | exact blA | exact blB | refine blC _ ?_ | refine blD ?_ ?_ _ | refine blE ?_ | refine blF _ ?_ | refine blG ?_ _ | refine blH ?_ | refine blI ?_ ?_ _) | (simp only [World.size_alloc]; omega) | (simp <;> omega)))) hv)).mono ?_); rintro e w' ⟨z, rfl, hz, rfl⟩; (have B1 := Lib.hid ((Blk.new w 24 #[.int .i64 r, .bool false, .slice A n cap]).below z.2); have q1 : (Kin.wd z).cell? ⟨w.heap.size, 1, none⟩ = some (.bool false) := B1.out.cell 1; have ql := B1.out.lt))
      go_ret
      exact ⟨ret_int (by rw [HR.out]; rfl), (by repeat (first | with_reducible (first | exact blA | exact blB | refine blC _ ?_ | refine blD ?_ ?_ _ | refine blE ?_ | refine blF _ ?_ | refine blG ?_ _ | refine blH ?_ | refine blI ?_ ?_ _) | (simp only [World.size_alloc]; omega) | (simp <;> omega)))⟩
    · by_cases h1 : 1 < n
      · go_enter Try.func13, Try.ntmps13
        go_wp2_with (go_at_call 11; (with_reducible refine (Kin.callK (W := (w.alloc (.cells #[.int .i64 r, .bool true, .slice A n cap] 24))) (by repeat (first | with_reducible (first | exact blA | exact blB | refine blC _ ?_ | refine blD ?_ ?_ _ | refine blE ?_ | refine blF _ ?_ | refine blG ?_ _ | refine blH ?_ | refine blI ?_ ?_ _) | (simp only [World.size_alloc]; omega) | (simp <;> omega))) (validT_is r true A cap l _ HL.out (HA.out.below (by repeat (first | with_reducible (first | exact blA | exact blB | refine blC _ ?_ | refine blD ?_ ?_ _ | refine blE ?_ | refine blF _ ?_ | refine blG ?_ _ | refine blH ?_ | refine blI ?_ ?_ _) | (simp only [World.size_alloc]; omega) | (simp <;> omega)))) hv)).mono ?_); rintro e w' ⟨z, rfl, hz, rfl⟩; (have B1 := Lib.hid ((Blk.new w 24 #[.int .i64 r, .bool true, .slice A n cap]).below z.2); have q1 : (Kin.wd z).cell? ⟨w.heap.size, 1, none⟩ = some (.bool true) := B1.out.cell 1; have ql := B1.out.lt))
        go_ret
        exact ⟨ret_int (by rw [HR.out]; simp [h1]), (by repeat (first | with_reducible (first | exact blA | exact blB | refine blC _ ?_ | refine blD ?_ ?_ _ | refine blE ?_ | refine blF _ ?_ | refine blG ?_ _ | refine blH ?_ | refine blI ?_ ?_ _) | (simp only [World.size_alloc]; omega) | (simp <;> omega)))⟩
      · go_enter Try.func13, Try.ntmps13
        go_wp2_with (go_at_call 11; (with_reducible refine (Kin.callK (W := (w.alloc (.cells #[.int .i64 r, .bool true, .slice A n cap] 24))) (by repeat (first | with_reducible (first | exact blA | exact blB | refine blC _ ?_ | refine blD ?_ ?_ _ | refine blE ?_ | refine blF _ ?_ | refine blG ?_ _ | refine blH ?_ | refine blI ?_ ?_ _) | (simp only [World.size_alloc]; omega) | (simp <;> omega))) (validT_is r true A cap l _ HL.out (HA.out.below (by repeat (first | with_reducible (first | exact blA | exact blB | refine blC _ ?_ | refine blD ?_ ?_ _ | refine blE ?_ | refine blF _ ?_ | refine blG ?_ _ | refine blH ?_ | refine blI ?_ ?_ _) | (simp only [World.size_alloc]; omega) | (simp <;> omega)))) hv)).mono ?_); rintro e w' ⟨z, rfl, hz, rfl⟩; (have B1 := Lib.hid ((Blk.new w 24 #[.int .i64 r, .bool true, .slice A n cap]).below z.2); have q1 : (Kin.wd z).cell? ⟨w.heap.size, 1, none⟩ = some (.bool true) := B1.out.cell 1; have ql := B1.out.lt))
        go_ret
        exact ⟨ret_int (by rw [HR.out]; simp [h1]), (by repeat (first | with_reducible (first | exact blA | exact blB | refine blC _ ?_ | refine blD ?_ ?_ _ | refine blE ?_ | refine blF _ ?_ | refine blG ?_ _ | refine blH ?_ | refine blI ?_ ?_ _) | (simp only [World.size_alloc]; omega) | (simp <;> omega)))⟩
set_option maxHeartbeats 4000000 in
theorem stepsR_any (r : Int) (cl : Bool) (A : Option Addr) (cap : Nat) (l : List Cl) (w : World) (h : Rd 2 encPt w (.slice A l.length cap) l) :
    Calls Try.prog 14 #[tv r cl A l.length cap] w fun e w' => e = .returned (.int .i64 (stepsT ((r, cl), l))) ∧ Below w.heap.size w w' := by
  obtain ⟨n, hL⟩ : ∃ n, l.length = n := ⟨_, rfl⟩
  have HL := Lib.hid hL
  have HA := Lib.hid h
  rw [hL] at h HA ⊢
  clear h hL
  cases hv : tval ((r, cl), l)
  · have HR := Lib.hid (show stepsT ((r, cl), l) = 0 by unfold stepsT; rw [hv]; rfl)
    go_enter Try.func14, Try.ntmps14
    go_wp2_with (go_at_call 12; (with_reducible refine (Kin.callK (W := (w.alloc (.cells #[.int .i64 r, .bool cl, .slice A n cap] 24))) (by repeat (first | with_reducible (first | exact blA | exact blB | refine blC _ ?_ | refine blD ?_ ?_ _ | refine blE ?_ | refine blF _ ?_ | refine blG ?_ _ | refine blH ?_ | refine blI ?_ ?_ _) | (simp only [World.size_alloc]; omega) | (simp <;> omega))) (validR_is r cl A cap l _ HL.out (HA.out.below (by repeat (first | with_reducible (first | exact blA | exact blB | refine blC _ ?_ | refine blD ?_ ?_ _ | refine blE ?_ | refine blF _ ?_ | refine blG ?_ _ | refine blH ?_ | refine blI ?_ ?_ _) | (simp only [World.size_alloc]; omega) | (simp <;> omega)))) hv)).mono ?_); rintro e w' ⟨z, rfl, hz, rfl⟩; skip)
    go_ret
    exact ⟨ret_int HR.out.symm, (by repeat (first | with_reducible (first | exact blA | exact blB | refine blC _ ?_ | refine blD ?_ ?_ _ | refine blE ?_ | refine blF _ ?_ | refine blG ?_ _ | refine blH ?_ | refine blI ?_ ?_ _) | (simp only [World.size_alloc]; omega) | (simp <;> omega)))⟩
  · have HR := Lib.hid (show stepsT ((r, cl), l) = if cl && decide (1 < n) then (n : Int) else (n : Int) - 1 by unfold stepsT; rw [hv, HL.out]; rfl)
    have hn : n ≤ 65536 := by have := (tval_len hv).2.2; have := HL.out; simp at *; omega
    have hw : IntKind.i64.wrap ((n : Int) - 1) = (n : Int) - 1 := IntWalk.i64_in _ (by omega)
    cases cl
    · go_enter Try.func14, Try.ntmps14
      go_wp2_with (go_at_call 12; (with_reducible refine (Kin.callK (W := (w.alloc (.cells #[.int .i64 r, .bool false, .slice A n cap] 24))) (by repeat (first | with_reducible (first | exact blA | exact blB | refine blC _ ?_ | refine blD ?_ ?_ _ | refine blE ?_ | refine blF _ ?_ | refine blG ?_ _ | refine blH ?_ | refine blI ?_ ?_ _) | (simp only [World.size_alloc]; omega) | (simp <;> omega))) (validR_is r false A cap l _ HL.out (HA.out.below (by repeat (first | with_reducible (first | exact blA | exact blB | refine blC _ ?_ | refine blD ?_ ?_ _ | refine blE ?_ | refine blF _ ?_ | refine blG ?_ _ | refine blH ?_ | refine blI ?_ ?_ _) | (simp only [World.size_alloc]; omega) | (simp <;> omega)))) hv)).mono ?_); rintro e w' ⟨z, rfl, hz, rfl⟩; (have B1 := Lib.hid ((Blk.new w 24 #[.int .i64 r, .bool false, .slice A n cap]).below z.2); have q1 : (Kin.wd z).cell? ⟨w.heap.size, 1, none⟩ = some (.bool false) := B1.out.cell 1; have q2 : (Kin.wd z).cell? ⟨w.heap.size, 2, none⟩ = some (.slice A n cap) := B1.out.cell 2; have ql := B1.out.lt))
      go_ret
      exact ⟨ret_int (by rw [HR.out]; rfl), (by repeat (first | with_reducible (first | exact blA | exact blB | refine blC _ ?_ | refine blD ?_ ?_ _ | refine blE ?_ | refine blF _ ?_ | refine blG ?_ _ | refine blH ?_ | refine blI ?_ ?_ _) | (simp only [World.size_alloc]; omega) | (simp <;> omega)))⟩
    · by_cases h1 : 1 < n
      · go_enter Try.func14, Try.ntmps14
        go_wp2_with (go_at_call 12; (with_reducible refine (Kin.callK (W := (w.alloc (.cells #[.int .i64 r, .bool true, .slice A n cap] 24))) (by repeat (first | with_reducible (first | exact blA | exact blB | refine blC _ ?_ | refine blD ?_ ?_ _ | refine blE ?_ | refine blF _ ?_ | refine blG ?_ _ | refine blH ?_ | refine blI ?_ ?_ _) | (simp only [World.size_alloc]; omega) | (simp <;> omega))) (validR_is r true A cap l _ HL.out (HA.out.below (by repeat (first | with_reducible (first | exact blA | exact blB | refine blC _ ?_ | refine blD ?_ ?_ _ | refine blE ?_ | refine blF _ ?_ | refine blG ?_ _ | refine blH ?_ | refine blI ?_ ?_ _) | (simp only [World.size_alloc]; omega) | (simp <;> omega)))) hv)).mono ?_); rintro e w' ⟨z, rfl, hz, rfl⟩; (have B1 := Lib.hid ((Blk.new w 24 #[.int .i64 r, .bool true, .slice A n cap]).below z.2); have q1 : (Kin.wd z).cell? ⟨w.heap.size, 1, none⟩ = some (.bool true) := B1.out.cell 1; have q2 : (Kin.wd z).cell? ⟨w.heap.size, 2, none⟩ = some (.slice A n cap) := B1.out.cell 2; have ql := B1.out.lt))
        go_ret
        exact ⟨ret_int (by rw [HR.out]; simp [h1]), (by repeat (first | with_reducible (first | exact blA | exact blB | refine blC _ ?_ | refine blD ?_ ?_ _ | refine blE ?_ | refine blF _ ?_ | refine blG ?_ _ | refine blH ?_ | refine blI ?_ ?_ _) | (simp only [World.size_alloc]; omega) | (simp <;> omega)))⟩
      · go_enter Try.func14, Try.ntmps14
        go_wp2_with (go_at_call 12; (with_reducible refine (Kin.callK (W := (w.alloc (.cells #[.int .i64 r, .bool true, .slice A n cap] 24))) (by repeat (first | with_reducible (first | exact blA | exact blB | refine blC _ ?_ | refine blD ?_ ?_ _ | refine blE ?_ | refine blF _ ?_ | refine blG ?_ _ | refine blH ?_ | refine blI ?_ ?_ _) | (simp only [World.size_alloc]; omega) | (simp <;> omega))) (validR_is r true A cap l _ HL.out (HA.out.below (by repeat (first | with_reducible (first | exact blA | exact blB | refine blC _ ?_ | refine blD ?_ ?_ _ | refine blE ?_ | refine blF _ ?_ | refine blG ?_ _ | refine blH ?_ | refine blI ?_ ?_ _) | (simp only [World.size_alloc]; omega) | (simp <;> omega)))) hv)).mono ?_); rintro e w' ⟨z, rfl, hz, rfl⟩; (have B1 := Lib.hid ((Blk.new w 24 #[.int .i64 r, .bool true, .slice A n cap]).below z.2); have q1 : (Kin.wd z).cell? ⟨w.heap.size, 1, none⟩ = some (.bool true) := B1.out.cell 1; have q2 : (Kin.wd z).cell? ⟨w.heap.size, 2, none⟩ = some (.slice A n cap) := B1.out.cell 2; have ql := B1.out.lt))
        go_ret
        exact ⟨ret_int (by rw [HR.out]; simp [h1]), (by repeat (first | with_reducible (first | exact blA | exact blB | refine blC _ ?_ | refine blD ?_ ?_ _ | refine blE ?_ | refine blF _ ?_ | refine blG ?_ _ | refine blH ?_ | refine blI ?_ ?_ _) | (simp only [World.size_alloc]; omega) | (simp <;> omega)))⟩
end Go.Proofs.Ytomndgjnhhchdaa
/- The chapter's Reverse and Turned, walked. -/
namespace Go.Proofs.Ytomndgjnhhchdaa
set_option linter.unusedSimpArgs false
set_option linter.unusedVariables false
set_option maxRecDepth 100000
open Go.RowKit Trk
attribute [local go_sem] Kin.cell Kin.frozen Kin.lt0 Kin.lt1 Kin.lt2 Kin.lt3
theorem own_m {W : World} {base n size m c : Nat} {B : Option Addr} {e : TypeId} {xs : List Value} (h : W.ownsRow base e size (.slice B m c) n xs) : m = n := by
  rcases h.2 with ⟨h1, h2⟩ | ⟨g, cap, cur, h1, _⟩
  · injection h1 with _ h1 _; omega
  · injection h1
set_option maxHeartbeats 8000000 in
theorem reverse_ref (r : Int) (cl : Bool) (A : Option Addr) (cap : Nat) (l : List Cl) (w : World) (h : Rd 2 encPt w (.slice A l.length cap) l) :
    Calls Try.prog 31 #[tv r cl A l.length cap] w fun e w' => (∃ u, e = .returned u ∧ RdT w' u (revT ((r, cl), l))) ∧ Below w.heap.size w w' := by
  have HOP := Lib.hid (Rd.op h)
  obtain ⟨n, hL⟩ : ∃ n, l.length = n := ⟨_, rfl⟩
  have HL := Lib.hid hL
  have HA := Lib.hid h
  rw [hL] at h HA ⊢
  clear h hL
  cases hv : tval ((r, cl), l)
  · have HR := Lib.hid (show revT ((r, cl), l) = ((0, false), []) by unfold revT; rw [hv]; rfl)
    go_enter Try.func31, Try.ntmps31
    go_wp2_with (go_at_call 12; (with_reducible refine (Kin.callK (W := ((w.alloc (.cells #[.int .i64 r, .bool cl, .slice A n cap] 24)).alloc (.cells #[.int .i64 0, .bool false, .slice none 0 0] 24))) (by repeat (first | with_reducible (first | exact blA | exact blB | refine blC _ ?_ | refine blD ?_ ?_ _ | refine blE ?_ | refine blF _ ?_ | refine blG ?_ _ | refine blH ?_ | refine blI ?_ ?_ _) | (simp only [World.size_alloc]; omega) | (simp <;> omega))) (validR_is r cl A cap l _ HL.out (HA.out.below (by repeat (first | with_reducible (first | exact blA | exact blB | refine blC _ ?_ | refine blD ?_ ?_ _ | refine blE ?_ | refine blF _ ?_ | refine blG ?_ _ | refine blH ?_ | refine blI ?_ ?_ _) | (simp only [World.size_alloc]; omega) | (simp <;> omega)))) hv)).mono ?_); rintro e w' ⟨z, rfl, hz, rfl⟩; (have hb := z.boxes2; have B1 := Lib.hid hb.1; have B2 := Lib.hid hb.2; have q0 : (Kin.wd z).cell? ⟨w.heap.size, 0, none⟩ = some (.int .i64 r) := B1.out.cell 0; have q1 : (Kin.wd z).cell? ⟨w.heap.size, 1, none⟩ = some (.bool cl) := B1.out.cell 1; have q2 : (Kin.wd z).cell? ⟨w.heap.size, 2, none⟩ = some (.slice A n cap) := B1.out.cell 2; have ql := B1.out.lt; have c0 : (Kin.wd z).cell? ⟨w.heap.size + 1, 0, none⟩ = some (.int .i64 0) := B2.out.cell 0; have c1 : (Kin.wd z).cell? ⟨w.heap.size + 1, 1, none⟩ = some (.bool false) := B2.out.cell 1; have c2 : (Kin.wd z).cell? ⟨w.heap.size + 1, 2, none⟩ = some (.slice none 0 0) := B2.out.cell 2; have f0 : (Kin.wd z).frozen? ⟨w.heap.size + 1, 0, none⟩ = false := B2.out.frozen 0; have f1 : (Kin.wd z).frozen? ⟨w.heap.size + 1, 1, none⟩ = false := B2.out.frozen 1; have f2 : (Kin.wd z).frozen? ⟨w.heap.size + 1, 2, none⟩ = false := B2.out.frozen 2; have cl2 := B2.out.lt; clear hb))
    ((try simp only [Exit.inBlock, Exit.then]); refine bodyPost_ret (results_cell_row rfl _ _ _ _ _ (0, 0) _ rfl (((B2.out.set_ 0 _).set_ 1 _).set_ 2 _) Try.underlying24 rfl (by kernel_rfl)) rfl ?_)
    exact ⟨⟨_, rfl, by rw [HR.out]; exact ⟨none, 0, rfl, Rd.nil⟩⟩, (by repeat (first | with_reducible (first | exact blA | exact blB | refine blC _ ?_ | refine blD ?_ ?_ _ | refine blE ?_ | refine blF _ ?_ | refine blG ?_ _ | refine blH ?_ | refine blI ?_ ?_ _) | (simp only [World.size_alloc]; omega) | (simp <;> omega)))⟩
  · obtain ⟨R, hRv⟩ : ∃ R, l.reverse = R := ⟨_, rfl⟩
    have HR := Lib.hid (show revT ((r, cl), l) = ((r, cl), R) by unfold revT; rw [hv, ← hRv]; rfl)
    have HRL := Lib.hid (show R.length = n by rw [← hRv, List.length_reverse, HL.out])
    have HRV := Lib.hid (show ∀ k, k < n → R[k]? = l[n - 1 - k]? from fun k hk => by rw [← hRv, List.getElem?_reverse (by rw [HL.out]; exact hk), HL.out])
    clear hRv
    have hn : n ≤ 65536 := by have := (tval_len hv).2.2; have := HL.out; simp at *; omega
    have hn0 : 0 < n := by have := (tval_len hv).2.1; have := HL.out; simp at *; omega
    have hw0 : IntKind.i64.wrap ((n : Int) - 1) = (n : Int) - 1 := IntWalk.i64_in _ (by omega)
    go_enter Try.func31, Try.ntmps31
    go_wp2_with (go_at_call 12; (with_reducible refine (Kin.callK (W := ((w.alloc (.cells #[.int .i64 r, .bool cl, .slice A n cap] 24)).alloc (.cells #[.int .i64 0, .bool false, .slice none 0 0] 24))) (by repeat (first | with_reducible (first | exact blA | exact blB | refine blC _ ?_ | refine blD ?_ ?_ _ | refine blE ?_ | refine blF _ ?_ | refine blG ?_ _ | refine blH ?_ | refine blI ?_ ?_ _) | (simp only [World.size_alloc]; omega) | (simp <;> omega))) (validR_is r cl A cap l _ HL.out (HA.out.below (by repeat (first | with_reducible (first | exact blA | exact blB | refine blC _ ?_ | refine blD ?_ ?_ _ | refine blE ?_ | refine blF _ ?_ | refine blG ?_ _ | refine blH ?_ | refine blI ?_ ?_ _) | (simp only [World.size_alloc]; omega) | (simp <;> omega)))) hv)).mono ?_); rintro e w' ⟨z, rfl, hz, rfl⟩; (have hb := z.boxes2; have B1 := Lib.hid hb.1; have B2 := Lib.hid hb.2; have q0 : (Kin.wd z).cell? ⟨w.heap.size, 0, none⟩ = some (.int .i64 r) := B1.out.cell 0; have q1 : (Kin.wd z).cell? ⟨w.heap.size, 1, none⟩ = some (.bool cl) := B1.out.cell 1; have q2 : (Kin.wd z).cell? ⟨w.heap.size, 2, none⟩ = some (.slice A n cap) := B1.out.cell 2; have ql := B1.out.lt; have c0 : (Kin.wd z).cell? ⟨w.heap.size + 1, 0, none⟩ = some (.int .i64 0) := B2.out.cell 0; have c1 : (Kin.wd z).cell? ⟨w.heap.size + 1, 1, none⟩ = some (.bool false) := B2.out.cell 1; have c2 : (Kin.wd z).cell? ⟨w.heap.size + 1, 2, none⟩ = some (.slice none 0 0) := B2.out.cell 2; have f0 : (Kin.wd z).frozen? ⟨w.heap.size + 1, 0, none⟩ = false := B2.out.frozen 0; have f1 : (Kin.wd z).frozen? ⟨w.heap.size + 1, 1, none⟩ = false := B2.out.frozen 1; have f2 : (Kin.wd z).frozen? ⟨w.heap.size + 1, 2, none⟩ = false := B2.out.frozen 2; have cl2 := B2.out.lt; clear hb))
    go_loopw [4] (fun i wr => ∃ k : Nat, k ≤ n ∧ i = .int .i64 ((n : Int) - 1 - k) ∧ ∃ (B : Option Addr) (m c : Nat), Hid (Blk wr z.1.heap.size 24 #[.int .i64 r, .bool cl, .slice B m c]) ∧ Hid (wr.ownsRow (z.1.heap.size + 1) 31 2 (.slice B m c) (R.take k).length ((R.take k).flatMap encPt)) ∧ ∃ z2 : Kin z.1, z2.1 = wr) (fun i _ => (intOf i + 1).toNat)
    case atStart => exact ⟨0, Nat.zero_le _, by go_num, none, 0, 0, Lib.hid (Blk.new _ _ _), Lib.hid (World.ownsRow_nil _ _ _ _), ⟨World.alloc _ _, (by repeat (first | with_reducible (first | exact blA | exact blB | refine blC _ ?_ | refine blD ?_ ?_ _ | refine blE ?_ | refine blF _ ?_ | refine blG ?_ _ | refine blH ?_ | refine blI ?_ ?_ _) | (simp only [World.size_alloc]; omega) | (simp <;> omega)))⟩, rfl⟩
    case round =>
      obtain ⟨k, hk, rfl, B, m, c, HP, HQ, z2, rfl⟩ := hrel
      have hn2 := own_len encPt_len (by decide) HQ.out
      have hHW := Lib.hid (show Below w.heap.size w z2.1 from (by repeat (first | with_reducible (first | exact blA | exact blB | refine blC _ ?_ | refine blD ?_ ?_ _ | refine blE ?_ | refine blF _ ?_ | refine blG ?_ _ | refine blH ?_ | refine blI ?_ ?_ _) | (simp only [World.size_alloc]; omega) | (simp <;> omega))))
      have g2 : z2.1.cell? ⟨z.1.heap.size, 2, none⟩ = some (.slice B m c) := HP.out.cell 2
      have g0 : z2.1.cell? ⟨z.1.heap.size, 0, none⟩ = some (.int .i64 r) := HP.out.cell 0
      have g1 : z2.1.cell? ⟨z.1.heap.size, 1, none⟩ = some (.bool cl) := HP.out.cell 1
      have gl := HP.out.lt
      have b2 : z2.1.cell? ⟨w.heap.size, 2, none⟩ = some (.slice A n cap) := (z2.cell ql).trans q2
      have bl := z2.lt0 ql
      by_cases hlt : k < n
      · have HRVk := Lib.hid (HRV.out k hlt)
        obtain ⟨p, hp⟩ : ∃ p, l[n - 1 - k]? = some p := ⟨_, List.getElem?_eq_getElem (by rw [HL.out]; omega)⟩
        obtain ⟨bA, offA, rfl, hbA, hcA⟩ := HOP.out (n - 1 - k) p hp
        have g3 : z2.1.cell? ⟨bA, offA + (n - 1 - k) * 2, none⟩ = some (.int .i64 p.1) := (hHW.out.cell (p := ⟨bA, _, none⟩) hbA).trans (hcA (n - 1 - k) p hp 0 _ rfl)
        have g4 : z2.1.cell? ⟨bA, offA + (n - 1 - k) * 2 + 1, none⟩ = some (.int .i64 p.2) := (hHW.out.cell (p := ⟨bA, _, none⟩) hbA).trans (hcA (n - 1 - k) p hp 1 _ rfl)
        have gl2 : bA < z2.1.heap.size := Nat.lt_of_lt_of_le hbA hHW.out.size
        have HCS := Lib.hid (show R.take (k + 1) = R.take k ++ [p] by
          rw [List.take_add_one, HRVk.out, hp]; rfl)
        have HCA := Lib.hid hcA
        have hmm : m ≤ 65536 := by have := own_m HQ.out; rw [List.length_take] at this; omega
        clear hp hcA
        have hw1 : (0 : Int) ≤ (n : Int) - 1 - (k : Int) := by omega
        have hw2 : ((n : Int) - 1 - (k : Int)).toNat = n - 1 - k := by omega
        have hw3 : (n : Int) - 1 - (k : Int) < (n : Int) := by omega
        have hw4 : n - 1 - k < n := by omega
        have hw5 : IntKind.i64.wrap ((n : Int) - 1 - (k : Int) - 1) = (n : Int) - 1 - (k : Int) - 1 := IntWalk.i64_in _ (by omega)
        go_wp2
        refine wp_region_floatT 2 7 (fun w' => w'.cell? ⟨z.1.heap.size, 2, none⟩ = some (.slice B m c)) (by kernel_rfl) (by kernel_rfl) (by kernel_rfl) (fun z_ => (z_.cell gl).trans g2) ?_
        simp only [List.take_succ_cons, List.take_zero, List.drop_succ_cons, List.drop_zero]
        refine @takeS_cons _ _ _ _ _ _ _ ?_ rfl (fun w' hSw => ?_) ?_
        rotate_left
        · ((try dsimp only at hSw); go_simp; try with_reducible rfl)
        try simp only [Act.put, List.setIfInBounds_toArray, List.set_cons_zero, List.set_cons_succ]
        refine @takeS_cons _ _ _ _ _ _ _ ?_ rfl (fun w' hSw => ?_) ?_
        rotate_left
        · ((try dsimp only at hSw); go_simp; try with_reducible rfl)
        try simp only [Act.put, List.setIfInBounds_toArray, List.set_cons_zero, List.set_cons_succ]
        refine takeS_nil ?_
        ((repeat' (first | go_big_quiet_step (fail) | ((refine wpQuiet_guard rfl rfl rfl rfl (fun hg => ?_) (fun hg => ?_)) <;> (fail_if_success (first | guard_hyp hg : true = true | guard_hyp hg : false = false)) <;> (try simp only [decide_eq_true_eq, decide_eq_false_iff_not] at hg) <;> simp only [Act.put, List.setIfInBounds_toArray, List.set_cons_zero, List.set_cons_succ]))); all_goals ((with_reducible refine wpQuiet_nil ?_); intro zq))
        have HSR := Lib.hid (rd_one zq.1 encPt_len 31 p _ rfl rfl)
        have HZB := Lib.hid (show Below z.1.heap.size z.1 (zq.1.alloc (.cells #[.int .i64 p.1, .int .i64 p.2] 31)) from (by repeat (first | with_reducible (first | exact blA | exact blB | refine blC _ ?_ | refine blD ?_ ?_ _ | refine blE ?_ | refine blF _ ?_ | refine blG ?_ _ | refine blH ?_ | refine blI ?_ ?_ _) | (simp only [World.size_alloc]; omega) | (simp <;> omega))))
        have ht0 : (zq.1.alloc (.cells #[.int .i64 p.1, .int .i64 p.2] 31)).cell? ⟨z.1.heap.size, 2, none⟩ = some (.slice B m c) := (World.cell?_alloc_lt _ _ _ (zq.lt0 gl)).trans ((zq.cell gl).trans g2)
        intro K23 hK23
        go_simp
        refine hK23 _ _ (.inr ht0) ?_
        intro K24 hK24
        (skip; (refine step_app _ rfl _ _ 22 rfl encPt_len (by decide) oneP (z.1.heap.size + 1) 31 (.agg #[.int .i64 0, .int .i64 0]) 16 infoCell rfl Try.underlying22 (.slice B m c) _ _ _ (by first | rfl | simp [Act.eval, Act.put]) ((own_below HQ.out zq.2).alloc _) _ _ _ (by first | rfl | simp [Act.eval, Act.put]) (HSR.out) ?c1 (by decide) ?c2 ?_; (case c1 => (first | (simp only [List.length_append, List.length_cons, List.length_nil]; omega) | omega | (simp; omega))); (case c2 => exact (by repeat (first | with_reducible exact Nat.le_refl _ | assumption | with_reducible refine le_alloc ?_ _ | with_reducible refine le_drew ?_ | with_reducible refine Kin.le _ ?_ | assumption | omega | (simp only [World.size_alloc]; omega)))); intro v' w1 hown' hg hbel hat'; ((obtain ⟨B', n', c', rfl⟩ := own_slice hown'); have HPn := Lib.hid (blk_app hg (by decide) (by repeat (first | with_reducible (first | exact blA | exact blB | refine blC _ ?_ | refine blD ?_ ?_ _ | refine blE ?_ | refine blF _ ?_ | refine blG ?_ _ | refine blH ?_ | refine blI ?_ ?_ _) | (simp only [World.size_alloc]; omega) | (simp <;> omega))) ((own_below HQ.out zq.2).alloc _) HP.out); have p1 : w1.cell? ⟨z.1.heap.size, 2, none⟩ = some (.slice B m c) := HPn.out.cell 2; have pf1 : w1.frozen? ⟨z.1.heap.size, 2, none⟩ = false := HPn.out.frozen 2; have pl1 := HPn.out.lt; have HOO := Lib.hid hown'; have HBE := Lib.hid hbel; clear hown' hg hbel hat')))
        refine hK24 _ _ (.inr p1) ?_
        intro K25 hK25
        go_simp
        refine hK25 _ _ (.inr p1) ?_
        intro K26 hK26
        go_simp
        refine hK26 _ _ (.inl rfl) ?_
        clear hK23 hK24 hK25 hK26 K23 K24 K25 K26
        refine wpListT_nil ?_
        (try simp only [Exit.then])
        go_wp2
        go_roundw
        case rel => exact ⟨k + 1, by omega, by go_num, B', n', c', Lib.hid (HPn.out.set_ 2 _), Lib.hid (by rw [HCS.out]; exact own_grownBy HOO.out (grownBy_set _) (own_ne HOO.out HPn.out (by decide))), ⟨_, Below.setCell (HZB.out.trans (HBE.out.mono (Nat.le_succ _))) (Nat.le_refl _) _⟩, rfl⟩
        case measure => simp [intOf]; omega
      · have hkn : k = n := by omega
        subst hkn
        have HRF := Lib.hid (show R.take k = R from List.take_of_length_le (by rw [HRL.out]; exact Nat.le_refl _))
        rw [HRF.out] at HQ
        have hq := HQ.out
        have HNE := Lib.hid (own_neC (g := w.heap.size + 1) (OwnC.of hq) (by omega))
        have hrd := Rd.own encPt_len hq
        obtain ⟨A3, cap3, e3, _, _⟩ := hrd.open_
        injection e3 with e31 e32 e33
        subst e31 e32 e33
        have HU := Lib.hid hrd
        have D2 := Lib.hid (B2.out.below z2.2)
        have d0 : z2.1.cell? ⟨w.heap.size + 1, 0, none⟩ = some (.int .i64 0) := D2.out.cell 0
        have d1 : z2.1.cell? ⟨w.heap.size + 1, 1, none⟩ = some (.bool false) := D2.out.cell 1
        have d2 : z2.1.cell? ⟨w.heap.size + 1, 2, none⟩ = some (.slice none 0 0) := D2.out.cell 2
        have e0 : z2.1.frozen? ⟨w.heap.size + 1, 0, none⟩ = false := D2.out.frozen 0
        have e1 : z2.1.frozen? ⟨w.heap.size + 1, 1, none⟩ = false := D2.out.frozen 1
        have e2 : z2.1.frozen? ⟨w.heap.size + 1, 2, none⟩ = false := D2.out.frozen 2
        have dl := D2.out.lt
        clear hrd hq hn2
        have hw1 : ¬ (0 : Int) ≤ (k : Int) - 1 - (k : Int) := by omega
        go_wp2
        ((try simp only [Exit.inBlock, Exit.then]); refine bodyPost_ret (results_cell_row rfl _ _ _ _ _ (0, 0) _ rfl (((D2.out.set_ 0 _).set_ 1 _).set_ 2 _) Try.underlying24 rfl (by kernel_rfl)) rfl ?_)
        exact ⟨⟨_, rfl, by rw [HR.out]; exact ⟨_, _, rfl, rd_set3 HU.out HNE.out _ _ _⟩⟩, (by repeat (first | with_reducible (first | exact blA | exact blB | refine blC _ ?_ | refine blD ?_ ?_ _ | refine blE ?_ | refine blF _ ?_ | refine blG ?_ _ | refine blH ?_ | refine blI ?_ ?_ _) | (simp only [World.size_alloc]; omega) | (simp <;> omega)))⟩
set_option maxHeartbeats 8000000 in
theorem turned_ref (r : Int) (cl : Bool) (A : Option Addr) (cap : Nat) (l : List Cl) (w : World) (i : Int) (hi : -1099511627776 ≤ i ∧ i ≤ 1099511627776) (h : Rd 2 encPt w (.slice A l.length cap) l) :
    Calls Try.prog 32 #[tv r cl A l.length cap, .int .i64 i] w fun e w' => (∃ u, e = .returned u ∧ RdT w' u (turnT ((r, cl), l) i)) ∧ Below w.heap.size w w' := by
  have HOP := Lib.hid (Rd.op h)
  obtain ⟨n, hL⟩ : ∃ n, l.length = n := ⟨_, rfl⟩
  have HL := Lib.hid hL
  have HA := Lib.hid h
  rw [hL] at h HA ⊢
  clear h hL
  cases hv : tval ((r, cl), l)
  · have HR := Lib.hid (show turnT ((r, cl), l) i = ((0, false), []) by unfold turnT; rw [hv]; rfl)
    go_enter Try.func32, Try.ntmps32
    go_wp2_with (go_at_call 12; (with_reducible refine (Kin.callK (W := ((w.alloc (.cells #[.int .i64 r, .bool cl, .slice A n cap] 24)).alloc (.cells #[.int .i64 0, .bool false, .slice none 0 0] 24))) (by repeat (first | with_reducible (first | exact blA | exact blB | refine blC _ ?_ | refine blD ?_ ?_ _ | refine blE ?_ | refine blF _ ?_ | refine blG ?_ _ | refine blH ?_ | refine blI ?_ ?_ _) | (simp only [World.size_alloc]; omega) | (simp <;> omega))) (validR_is r cl A cap l _ HL.out (HA.out.below (by repeat (first | with_reducible (first | exact blA | exact blB | refine blC _ ?_ | refine blD ?_ ?_ _ | refine blE ?_ | refine blF _ ?_ | refine blG ?_ _ | refine blH ?_ | refine blI ?_ ?_ _) | (simp only [World.size_alloc]; omega) | (simp <;> omega)))) hv)).mono ?_); rintro e w' ⟨z, rfl, hz, rfl⟩; (have hb := z.boxes2; have B1 := Lib.hid hb.1; have B2 := Lib.hid hb.2; have q0 : (Kin.wd z).cell? ⟨w.heap.size, 0, none⟩ = some (.int .i64 r) := B1.out.cell 0; have q1 : (Kin.wd z).cell? ⟨w.heap.size, 1, none⟩ = some (.bool cl) := B1.out.cell 1; have q2 : (Kin.wd z).cell? ⟨w.heap.size, 2, none⟩ = some (.slice A n cap) := B1.out.cell 2; have ql := B1.out.lt; have c0 : (Kin.wd z).cell? ⟨w.heap.size + 1, 0, none⟩ = some (.int .i64 0) := B2.out.cell 0; have c1 : (Kin.wd z).cell? ⟨w.heap.size + 1, 1, none⟩ = some (.bool false) := B2.out.cell 1; have c2 : (Kin.wd z).cell? ⟨w.heap.size + 1, 2, none⟩ = some (.slice none 0 0) := B2.out.cell 2; have f0 : (Kin.wd z).frozen? ⟨w.heap.size + 1, 0, none⟩ = false := B2.out.frozen 0; have f1 : (Kin.wd z).frozen? ⟨w.heap.size + 1, 1, none⟩ = false := B2.out.frozen 1; have f2 : (Kin.wd z).frozen? ⟨w.heap.size + 1, 2, none⟩ = false := B2.out.frozen 2; have cl2 := B2.out.lt; clear hb))
    ((try simp only [Exit.inBlock, Exit.then]); refine bodyPost_ret (results_cell_row rfl _ _ _ _ _ (0, 0) _ rfl (((B2.out.set_ 0 _).set_ 1 _).set_ 2 _) Try.underlying24 rfl (by kernel_rfl)) rfl ?_)
    exact ⟨⟨_, rfl, by rw [HR.out]; exact ⟨none, 0, rfl, Rd.nil⟩⟩, (by repeat (first | with_reducible (first | exact blA | exact blB | refine blC _ ?_ | refine blD ?_ ?_ _ | refine blE ?_ | refine blF _ ?_ | refine blG ?_ _ | refine blH ?_ | refine blI ?_ ?_ _) | (simp only [World.size_alloc]; omega) | (simp <;> omega)))⟩
  · obtain ⟨R, hRv⟩ : ∃ R, rotL l (turnK ((r, cl), l) i) = R := ⟨_, rfl⟩
    have HR := Lib.hid (show turnT ((r, cl), l) i = ((r, cl), R) by unfold turnT; rw [hv, ← hRv]; rfl)
    have hn : n ≤ 65536 := by have := (tval_len hv).2.2; have := HL.out; simp at *; omega
    have hn0 : 0 < n := by have := (tval_len hv).2.1; have := HL.out; simp at *; omega
    obtain ⟨K, hK, hKn, hKe⟩ := turnK_val (r := r) (cl := cl) (l := l) (i := i) HL.out hn0
    rw [hK] at hRv
    have HRL := Lib.hid (show R.length = n by rw [← hRv, rotL_len, HL.out])
    have HRV := Lib.hid (show ∀ j, j < n → R[j]? = l[(K + j) % n]? from fun j hj => by rw [← hRv]; exact rotL_get HL.out hKn hj)
    have h1 := Int.tmod_lt_of_pos i (show (0 : Int) < (n : Int) by omega)
    have h2 := Int.lt_tmod_of_pos i (show (0 : Int) < (n : Int) by omega)
    have hn1 : ¬ (n : Int) = 0 := by omega
    have hn9 : ((n : Int) == 0) = false := by simp; omega
    have hw1 : IntKind.i64.wrap (i.tmod (n : Int)) = i.tmod (n : Int) := IntWalk.i64_in _ (by omega)
    have hw2 : IntKind.i64.wrap (i.tmod (n : Int) + (n : Int)) = i.tmod (n : Int) + (n : Int) := IntWalk.i64_in _ (by omega)
    clear hK hRv
    cases cl
    · have HKK := Lib.hid (show 0 = (K : Int) from hKe)
      clear hKe h1 h2
      replace HRV := Lib.hid (show ∀ j, j < n → R[j]? = l[j]? from fun j hj => by rw [HRV.out j hj, show K = 0 by (have := HKK.out; omega), Nat.zero_add, Nat.mod_eq_of_lt hj])
      go_enter Try.func32, Try.ntmps32
      go_wp2_with (go_at_call 12; (with_reducible refine (Kin.callK (W := ((w.alloc (.cells #[.int .i64 r, .bool false, .slice A n cap] 24)).alloc (.cells #[.int .i64 0, .bool false, .slice none 0 0] 24))) (by repeat (first | with_reducible (first | exact blA | exact blB | refine blC _ ?_ | refine blD ?_ ?_ _ | refine blE ?_ | refine blF _ ?_ | refine blG ?_ _ | refine blH ?_ | refine blI ?_ ?_ _) | (simp only [World.size_alloc]; omega) | (simp <;> omega))) (validR_is r false A cap l _ HL.out (HA.out.below (by repeat (first | with_reducible (first | exact blA | exact blB | refine blC _ ?_ | refine blD ?_ ?_ _ | refine blE ?_ | refine blF _ ?_ | refine blG ?_ _ | refine blH ?_ | refine blI ?_ ?_ _) | (simp only [World.size_alloc]; omega) | (simp <;> omega)))) hv)).mono ?_); rintro e w' ⟨z, rfl, hz, rfl⟩; (have hb := z.boxes2; have B1 := Lib.hid hb.1; have B2 := Lib.hid hb.2; have q0 : (Kin.wd z).cell? ⟨w.heap.size, 0, none⟩ = some (.int .i64 r) := B1.out.cell 0; have q1 : (Kin.wd z).cell? ⟨w.heap.size, 1, none⟩ = some (.bool false) := B1.out.cell 1; have q2 : (Kin.wd z).cell? ⟨w.heap.size, 2, none⟩ = some (.slice A n cap) := B1.out.cell 2; have ql := B1.out.lt; have c0 : (Kin.wd z).cell? ⟨w.heap.size + 1, 0, none⟩ = some (.int .i64 0) := B2.out.cell 0; have c1 : (Kin.wd z).cell? ⟨w.heap.size + 1, 1, none⟩ = some (.bool false) := B2.out.cell 1; have c2 : (Kin.wd z).cell? ⟨w.heap.size + 1, 2, none⟩ = some (.slice none 0 0) := B2.out.cell 2; have f0 : (Kin.wd z).frozen? ⟨w.heap.size + 1, 0, none⟩ = false := B2.out.frozen 0; have f1 : (Kin.wd z).frozen? ⟨w.heap.size + 1, 1, none⟩ = false := B2.out.frozen 1; have f2 : (Kin.wd z).frozen? ⟨w.heap.size + 1, 2, none⟩ = false := B2.out.frozen 2; have cl2 := B2.out.lt; clear hb))
      ((refine wp_region_kinK (W := ((w.alloc (.cells #[.int .i64 r, .bool false, .slice A n cap] 24)).alloc (.cells #[.int .i64 0, .bool false, .slice none 0 0] 24))) (by kernel_rfl) (by kernel_rfl) (by repeat (first | with_reducible (first | exact blA | exact blB | refine blC _ ?_ | refine blD ?_ ?_ _ | refine blE ?_ | refine blF _ ?_ | refine blG ?_ _ | refine blH ?_ | refine blI ?_ ?_ _) | (simp only [World.size_alloc]; omega) | (simp <;> omega))) ?_); (repeat' (first | go_big_quiet_step (fail) | ((refine wpQuiet_guard rfl rfl rfl rfl (fun hg => ?_) (fun hg => ?_)) <;> (fail_if_success (first | guard_hyp hg : true = true | guard_hyp hg : false = false)) <;> (try simp only [decide_eq_true_eq, decide_eq_false_iff_not] at hg) <;> simp only [Act.put, List.setIfInBounds_toArray, List.set_cons_zero, List.set_cons_succ]))); all_goals ((with_reducible refine wpQuiet_nil ?_); intro zq hz))
      clear B1 B2 q0 q1 q2 ql c0 c1 c2 f0 f1 f2 cl2
      revert zq hz
      intro zz hzz
      have hb := zz.boxes2
      have B1 := Lib.hid hb.1
      have B2 := Lib.hid hb.2
      have q0 : zz.1.cell? ⟨w.heap.size, 0, none⟩ = some (.int .i64 r) := B1.out.cell 0
      have q1 : zz.1.cell? ⟨w.heap.size, 1, none⟩ = some (.bool false) := B1.out.cell 1
      have q2 : zz.1.cell? ⟨w.heap.size, 2, none⟩ = some (.slice A n cap) := B1.out.cell 2
      have ql := B1.out.lt
      have c0 : zz.1.cell? ⟨w.heap.size + 1, 0, none⟩ = some (.int .i64 0) := B2.out.cell 0
      have c1 : zz.1.cell? ⟨w.heap.size + 1, 1, none⟩ = some (.bool false) := B2.out.cell 1
      have c2 : zz.1.cell? ⟨w.heap.size + 1, 2, none⟩ = some (.slice none 0 0) := B2.out.cell 2
      have f0 : zz.1.frozen? ⟨w.heap.size + 1, 0, none⟩ = false := B2.out.frozen 0
      have f1 : zz.1.frozen? ⟨w.heap.size + 1, 1, none⟩ = false := B2.out.frozen 1
      have f2 : zz.1.frozen? ⟨w.heap.size + 1, 2, none⟩ = false := B2.out.frozen 2
      have cl2 := B2.out.lt
      clear hb
      go_wp2
      go_loopw [33] (fun i wr => ∃ k : Nat, k ≤ n ∧ i = .int .i64 k ∧ ∃ (B : Option Addr) (m c : Nat), Hid (Blk wr zz.1.heap.size 24 #[.int .i64 r, .bool false, .slice B m c]) ∧ Hid (wr.ownsRow (zz.1.heap.size + 1) 31 2 (.slice B m c) (R.take k).length ((R.take k).flatMap encPt)) ∧ ∃ z2 : Kin zz.1, z2.1 = wr) (fun i _ => n - (intOf i).toNat)
      case atStart => exact ⟨0, Nat.zero_le _, rfl, none, 0, 0, Lib.hid (Blk.new _ _ _), Lib.hid (World.ownsRow_nil _ _ _ _), ⟨World.alloc _ _, (by repeat (first | with_reducible (first | exact blA | exact blB | refine blC _ ?_ | refine blD ?_ ?_ _ | refine blE ?_ | refine blF _ ?_ | refine blG ?_ _ | refine blH ?_ | refine blI ?_ ?_ _) | (simp only [World.size_alloc]; omega) | (simp <;> omega)))⟩, rfl⟩
      case round =>
        obtain ⟨k, hk, rfl, B, m, c, HP, HQ, z2, rfl⟩ := hrel
        have hn2 := own_len encPt_len (by decide) HQ.out
        have hHW := Lib.hid (show Below w.heap.size w z2.1 from (by repeat (first | with_reducible (first | exact blA | exact blB | refine blC _ ?_ | refine blD ?_ ?_ _ | refine blE ?_ | refine blF _ ?_ | refine blG ?_ _ | refine blH ?_ | refine blI ?_ ?_ _) | (simp only [World.size_alloc]; omega) | (simp <;> omega))))
        have g2 : z2.1.cell? ⟨zz.1.heap.size, 2, none⟩ = some (.slice B m c) := HP.out.cell 2
        have g0 : z2.1.cell? ⟨zz.1.heap.size, 0, none⟩ = some (.int .i64 r) := HP.out.cell 0
        have g1 : z2.1.cell? ⟨zz.1.heap.size, 1, none⟩ = some (.bool false) := HP.out.cell 1
        have gl := HP.out.lt
        have b2 : z2.1.cell? ⟨w.heap.size, 2, none⟩ = some (.slice A n cap) := (z2.cell ql).trans q2
        have bl := z2.lt0 ql
        by_cases hlt : k < n
        · have HRVk := Lib.hid (HRV.out k hlt)
          obtain ⟨p, hp⟩ : ∃ p, l[k]? = some p := ⟨_, List.getElem?_eq_getElem (by rw [HL.out]; exact hlt)⟩
          obtain ⟨bA, offA, rfl, hbA, hcA⟩ := HOP.out (k) p hp
          have g3 : z2.1.cell? ⟨bA, offA + (k) * 2, none⟩ = some (.int .i64 p.1) := (hHW.out.cell (p := ⟨bA, _, none⟩) hbA).trans (hcA (k) p hp 0 _ rfl)
          have g4 : z2.1.cell? ⟨bA, offA + (k) * 2 + 1, none⟩ = some (.int .i64 p.2) := (hHW.out.cell (p := ⟨bA, _, none⟩) hbA).trans (hcA (k) p hp 1 _ rfl)
          have gl2 : bA < z2.1.heap.size := Nat.lt_of_lt_of_le hbA hHW.out.size
          have HCS := Lib.hid (show R.take (k + 1) = R.take k ++ [p] by
            rw [List.take_add_one, HRVk.out, hp]; rfl)
          have HCA := Lib.hid hcA
          have hmm : m ≤ 65536 := by have := own_m HQ.out; rw [List.length_take] at this; omega
          clear hp hcA
          have hw3 : IntKind.i64.wrap (k : Int) = (k : Int) := IntWalk.i64_in _ (by omega)
          have hw4 : (k : Int).tmod (n : Int) = (k : Int) := Int.tmod_eq_of_lt (by omega) (by omega)
          go_wp2
          refine wp_region_floatT 2 11 (fun w' => w'.cell? ⟨zz.1.heap.size, 2, none⟩ = some (.slice B m c)) (by kernel_rfl) (by kernel_rfl) (by kernel_rfl) (fun z_ => (z_.cell gl).trans g2) ?_
          simp only [List.take_succ_cons, List.take_zero, List.drop_succ_cons, List.drop_zero]
          refine @takeS_cons _ _ _ _ _ _ _ ?_ rfl (fun w' hSw => ?_) ?_
          rotate_left
          · ((try dsimp only at hSw); go_simp; try with_reducible rfl)
          try simp only [Act.put, List.setIfInBounds_toArray, List.set_cons_zero, List.set_cons_succ]
          refine @takeS_cons _ _ _ _ _ _ _ ?_ rfl (fun w' hSw => ?_) ?_
          rotate_left
          · ((try dsimp only at hSw); go_simp; try with_reducible rfl)
          try simp only [Act.put, List.setIfInBounds_toArray, List.set_cons_zero, List.set_cons_succ]
          refine takeS_nil ?_
          ((repeat' (first | go_big_quiet_step (fail) | ((refine wpQuiet_guard rfl rfl rfl rfl (fun hg => ?_) (fun hg => ?_)) <;> (fail_if_success (first | guard_hyp hg : true = true | guard_hyp hg : false = false)) <;> (try simp only [decide_eq_true_eq, decide_eq_false_iff_not] at hg) <;> simp only [Act.put, List.setIfInBounds_toArray, List.set_cons_zero, List.set_cons_succ]))); all_goals ((with_reducible refine wpQuiet_nil ?_); intro zq))
          have HSR := Lib.hid (rd_one zq.1 encPt_len 31 p _ rfl rfl)
          have HZB := Lib.hid (show Below zz.1.heap.size zz.1 (zq.1.alloc (.cells #[.int .i64 p.1, .int .i64 p.2] 31)) from (by repeat (first | with_reducible (first | exact blA | exact blB | refine blC _ ?_ | refine blD ?_ ?_ _ | refine blE ?_ | refine blF _ ?_ | refine blG ?_ _ | refine blH ?_ | refine blI ?_ ?_ _) | (simp only [World.size_alloc]; omega) | (simp <;> omega))))
          have ht0 : (zq.1.alloc (.cells #[.int .i64 p.1, .int .i64 p.2] 31)).cell? ⟨zz.1.heap.size, 2, none⟩ = some (.slice B m c) := (World.cell?_alloc_lt _ _ _ (zq.lt0 gl)).trans ((zq.cell gl).trans g2)
          intro K23 hK23
          go_simp
          refine hK23 _ _ (.inr ht0) ?_
          intro K24 hK24
          (skip; (refine step_app _ rfl _ _ 22 rfl encPt_len (by decide) oneP (zz.1.heap.size + 1) 31 (.agg #[.int .i64 0, .int .i64 0]) 16 infoCell rfl Try.underlying22 (.slice B m c) _ _ _ (by first | rfl | simp [Act.eval, Act.put]) ((own_below HQ.out zq.2).alloc _) _ _ _ (by first | rfl | simp [Act.eval, Act.put]) (HSR.out) ?c1 (by decide) ?c2 ?_; (case c1 => (first | (simp only [List.length_append, List.length_cons, List.length_nil]; omega) | omega | (simp; omega))); (case c2 => exact (by repeat (first | with_reducible exact Nat.le_refl _ | assumption | with_reducible refine le_alloc ?_ _ | with_reducible refine le_drew ?_ | with_reducible refine Kin.le _ ?_ | assumption | omega | (simp only [World.size_alloc]; omega)))); intro v' w1 hown' hg hbel hat'; ((obtain ⟨B', n', c', rfl⟩ := own_slice hown'); have HPn := Lib.hid (blk_app hg (by decide) (by repeat (first | with_reducible (first | exact blA | exact blB | refine blC _ ?_ | refine blD ?_ ?_ _ | refine blE ?_ | refine blF _ ?_ | refine blG ?_ _ | refine blH ?_ | refine blI ?_ ?_ _) | (simp only [World.size_alloc]; omega) | (simp <;> omega))) ((own_below HQ.out zq.2).alloc _) HP.out); have p1 : w1.cell? ⟨zz.1.heap.size, 2, none⟩ = some (.slice B m c) := HPn.out.cell 2; have pf1 : w1.frozen? ⟨zz.1.heap.size, 2, none⟩ = false := HPn.out.frozen 2; have pl1 := HPn.out.lt; have HOO := Lib.hid hown'; have HBE := Lib.hid hbel; clear hown' hg hbel hat')))
          refine hK24 _ _ (.inr p1) ?_
          intro K25 hK25
          go_simp
          refine hK25 _ _ (.inr p1) ?_
          intro K26 hK26
          go_simp
          refine hK26 _ _ (.inl rfl) ?_
          clear hK23 hK24 hK25 hK26 K23 K24 K25 K26
          refine wpListT_nil ?_
          (try simp only [Exit.then])
          go_wp2
          go_roundw
          case rel => exact ⟨k + 1, by omega, by go_num, B', n', c', Lib.hid (HPn.out.set_ 2 _), Lib.hid (by rw [HCS.out]; exact own_grownBy HOO.out (grownBy_set _) (own_ne HOO.out HPn.out (by decide))), ⟨_, Below.setCell (HZB.out.trans (HBE.out.mono (Nat.le_succ _))) (Nat.le_refl _) _⟩, rfl⟩
          case measure => simp [intOf]; omega
        · have hkn : k = n := by omega
          subst hkn
          have HRF := Lib.hid (show R.take k = R from List.take_of_length_le (by rw [HRL.out]; exact Nat.le_refl _))
          rw [HRF.out] at HQ
          have hq := HQ.out
          have HNE := Lib.hid (own_neC (g := w.heap.size + 1) (OwnC.of hq) (by omega))
          have hrd := Rd.own encPt_len hq
          obtain ⟨A3, cap3, e3, _, _⟩ := hrd.open_
          injection e3 with e31 e32 e33
          subst e31 e32 e33
          have HU := Lib.hid hrd
          have D2 := Lib.hid (B2.out.below z2.2)
          have d0 : z2.1.cell? ⟨w.heap.size + 1, 0, none⟩ = some (.int .i64 0) := D2.out.cell 0
          have d1 : z2.1.cell? ⟨w.heap.size + 1, 1, none⟩ = some (.bool false) := D2.out.cell 1
          have d2 : z2.1.cell? ⟨w.heap.size + 1, 2, none⟩ = some (.slice none 0 0) := D2.out.cell 2
          have e0 : z2.1.frozen? ⟨w.heap.size + 1, 0, none⟩ = false := D2.out.frozen 0
          have e1 : z2.1.frozen? ⟨w.heap.size + 1, 1, none⟩ = false := D2.out.frozen 1
          have e2 : z2.1.frozen? ⟨w.heap.size + 1, 2, none⟩ = false := D2.out.frozen 2
          have dl := D2.out.lt
          clear hrd hq hn2
          go_wp2
          ((try simp only [Exit.inBlock, Exit.then]); refine bodyPost_ret (results_cell_row rfl _ _ _ _ _ (0, 0) _ rfl (((D2.out.set_ 0 _).set_ 1 _).set_ 2 _) Try.underlying24 rfl (by kernel_rfl)) rfl ?_)
          exact ⟨⟨_, rfl, by rw [HR.out]; exact ⟨_, _, rfl, rd_set3 HU.out HNE.out _ _ _⟩⟩, (by repeat (first | with_reducible (first | exact blA | exact blB | refine blC _ ?_ | refine blD ?_ ?_ _ | refine blE ?_ | refine blF _ ?_ | refine blG ?_ _ | refine blH ?_ | refine blI ?_ ?_ _) | (simp only [World.size_alloc]; omega) | (simp <;> omega)))⟩
    · have HKK := Lib.hid (show (i.tmod (n : Int) + (n : Int)).tmod (n : Int) = (K : Int) from hKe)
      clear hKe h1 h2
      go_enter Try.func32, Try.ntmps32
      go_wp2_with (go_at_call 12; (with_reducible refine (Kin.callK (W := ((w.alloc (.cells #[.int .i64 r, .bool true, .slice A n cap] 24)).alloc (.cells #[.int .i64 0, .bool false, .slice none 0 0] 24))) (by repeat (first | with_reducible (first | exact blA | exact blB | refine blC _ ?_ | refine blD ?_ ?_ _ | refine blE ?_ | refine blF _ ?_ | refine blG ?_ _ | refine blH ?_ | refine blI ?_ ?_ _) | (simp only [World.size_alloc]; omega) | (simp <;> omega))) (validR_is r true A cap l _ HL.out (HA.out.below (by repeat (first | with_reducible (first | exact blA | exact blB | refine blC _ ?_ | refine blD ?_ ?_ _ | refine blE ?_ | refine blF _ ?_ | refine blG ?_ _ | refine blH ?_ | refine blI ?_ ?_ _) | (simp only [World.size_alloc]; omega) | (simp <;> omega)))) hv)).mono ?_); rintro e w' ⟨z, rfl, hz, rfl⟩; (have hb := z.boxes2; have B1 := Lib.hid hb.1; have B2 := Lib.hid hb.2; have q0 : (Kin.wd z).cell? ⟨w.heap.size, 0, none⟩ = some (.int .i64 r) := B1.out.cell 0; have q1 : (Kin.wd z).cell? ⟨w.heap.size, 1, none⟩ = some (.bool true) := B1.out.cell 1; have q2 : (Kin.wd z).cell? ⟨w.heap.size, 2, none⟩ = some (.slice A n cap) := B1.out.cell 2; have ql := B1.out.lt; have c0 : (Kin.wd z).cell? ⟨w.heap.size + 1, 0, none⟩ = some (.int .i64 0) := B2.out.cell 0; have c1 : (Kin.wd z).cell? ⟨w.heap.size + 1, 1, none⟩ = some (.bool false) := B2.out.cell 1; have c2 : (Kin.wd z).cell? ⟨w.heap.size + 1, 2, none⟩ = some (.slice none 0 0) := B2.out.cell 2; have f0 : (Kin.wd z).frozen? ⟨w.heap.size + 1, 0, none⟩ = false := B2.out.frozen 0; have f1 : (Kin.wd z).frozen? ⟨w.heap.size + 1, 1, none⟩ = false := B2.out.frozen 1; have f2 : (Kin.wd z).frozen? ⟨w.heap.size + 1, 2, none⟩ = false := B2.out.frozen 2; have cl2 := B2.out.lt; clear hb))
      ((refine wp_region_kinK (W := ((w.alloc (.cells #[.int .i64 r, .bool true, .slice A n cap] 24)).alloc (.cells #[.int .i64 0, .bool false, .slice none 0 0] 24))) (by kernel_rfl) (by kernel_rfl) (by repeat (first | with_reducible (first | exact blA | exact blB | refine blC _ ?_ | refine blD ?_ ?_ _ | refine blE ?_ | refine blF _ ?_ | refine blG ?_ _ | refine blH ?_ | refine blI ?_ ?_ _) | (simp only [World.size_alloc]; omega) | (simp <;> omega))) ?_); (repeat' (first | go_big_quiet_step (fail) | ((refine wpQuiet_guard rfl rfl rfl rfl (fun hg => ?_) (fun hg => ?_)) <;> (fail_if_success (first | guard_hyp hg : true = true | guard_hyp hg : false = false)) <;> (try simp only [decide_eq_true_eq, decide_eq_false_iff_not] at hg) <;> simp only [Act.put, List.setIfInBounds_toArray, List.set_cons_zero, List.set_cons_succ]))); all_goals ((with_reducible refine wpQuiet_nil ?_); intro zq hz))
      clear B1 B2 q0 q1 q2 ql c0 c1 c2 f0 f1 f2 cl2
      revert zq hz
      intro zz hzz
      have hb := zz.boxes2
      have B1 := Lib.hid hb.1
      have B2 := Lib.hid hb.2
      have q0 : zz.1.cell? ⟨w.heap.size, 0, none⟩ = some (.int .i64 r) := B1.out.cell 0
      have q1 : zz.1.cell? ⟨w.heap.size, 1, none⟩ = some (.bool true) := B1.out.cell 1
      have q2 : zz.1.cell? ⟨w.heap.size, 2, none⟩ = some (.slice A n cap) := B1.out.cell 2
      have ql := B1.out.lt
      have c0 : zz.1.cell? ⟨w.heap.size + 1, 0, none⟩ = some (.int .i64 0) := B2.out.cell 0
      have c1 : zz.1.cell? ⟨w.heap.size + 1, 1, none⟩ = some (.bool false) := B2.out.cell 1
      have c2 : zz.1.cell? ⟨w.heap.size + 1, 2, none⟩ = some (.slice none 0 0) := B2.out.cell 2
      have f0 : zz.1.frozen? ⟨w.heap.size + 1, 0, none⟩ = false := B2.out.frozen 0
      have f1 : zz.1.frozen? ⟨w.heap.size + 1, 1, none⟩ = false := B2.out.frozen 1
      have f2 : zz.1.frozen? ⟨w.heap.size + 1, 2, none⟩ = false := B2.out.frozen 2
      have cl2 := B2.out.lt
      clear hb
      go_wp2
      go_loopw [33] (fun i wr => ∃ k : Nat, k ≤ n ∧ i = .int .i64 k ∧ ∃ (B : Option Addr) (m c : Nat), Hid (Blk wr zz.1.heap.size 24 #[.int .i64 r, .bool true, .slice B m c]) ∧ Hid (wr.ownsRow (zz.1.heap.size + 1) 31 2 (.slice B m c) (R.take k).length ((R.take k).flatMap encPt)) ∧ ∃ z2 : Kin zz.1, z2.1 = wr) (fun i _ => n - (intOf i).toNat)
      case atStart => exact ⟨0, Nat.zero_le _, rfl, none, 0, 0, Lib.hid (Blk.new _ _ _), Lib.hid (World.ownsRow_nil _ _ _ _), ⟨World.alloc _ _, (by repeat (first | with_reducible (first | exact blA | exact blB | refine blC _ ?_ | refine blD ?_ ?_ _ | refine blE ?_ | refine blF _ ?_ | refine blG ?_ _ | refine blH ?_ | refine blI ?_ ?_ _) | (simp only [World.size_alloc]; omega) | (simp <;> omega)))⟩, rfl⟩
      case round =>
        obtain ⟨k, hk, rfl, B, m, c, HP, HQ, z2, rfl⟩ := hrel
        have hn2 := own_len encPt_len (by decide) HQ.out
        have hHW := Lib.hid (show Below w.heap.size w z2.1 from (by repeat (first | with_reducible (first | exact blA | exact blB | refine blC _ ?_ | refine blD ?_ ?_ _ | refine blE ?_ | refine blF _ ?_ | refine blG ?_ _ | refine blH ?_ | refine blI ?_ ?_ _) | (simp only [World.size_alloc]; omega) | (simp <;> omega))))
        have g2 : z2.1.cell? ⟨zz.1.heap.size, 2, none⟩ = some (.slice B m c) := HP.out.cell 2
        have g0 : z2.1.cell? ⟨zz.1.heap.size, 0, none⟩ = some (.int .i64 r) := HP.out.cell 0
        have g1 : z2.1.cell? ⟨zz.1.heap.size, 1, none⟩ = some (.bool true) := HP.out.cell 1
        have gl := HP.out.lt
        have b2 : z2.1.cell? ⟨w.heap.size, 2, none⟩ = some (.slice A n cap) := (z2.cell ql).trans q2
        have bl := z2.lt0 ql
        by_cases hlt : k < n
        · obtain ⟨J, hJ⟩ : ∃ J, (K + k) % n = J := ⟨_, rfl⟩
          have hJn : J < n := by rw [← hJ]; exact Nat.mod_lt _ hn0
          have HRVk := Lib.hid (show R[k]? = l[J]? by rw [HRV.out k hlt, hJ])
          obtain ⟨p, hp⟩ : ∃ p, l[J]? = some p := ⟨_, List.getElem?_eq_getElem (by rw [HL.out]; exact hJn)⟩
          obtain ⟨bA, offA, rfl, hbA, hcA⟩ := HOP.out (J) p hp
          have g3 : z2.1.cell? ⟨bA, offA + (J) * 2, none⟩ = some (.int .i64 p.1) := (hHW.out.cell (p := ⟨bA, _, none⟩) hbA).trans (hcA (J) p hp 0 _ rfl)
          have g4 : z2.1.cell? ⟨bA, offA + (J) * 2 + 1, none⟩ = some (.int .i64 p.2) := (hHW.out.cell (p := ⟨bA, _, none⟩) hbA).trans (hcA (J) p hp 1 _ rfl)
          have gl2 : bA < z2.1.heap.size := Nat.lt_of_lt_of_le hbA hHW.out.size
          have HCS := Lib.hid (show R.take (k + 1) = R.take k ++ [p] by
            rw [List.take_add_one, HRVk.out, hp]; rfl)
          have HCA := Lib.hid hcA
          have hmm : m ≤ 65536 := by have := own_m HQ.out; rw [List.length_take] at this; omega
          clear hp hcA
          have hw3 : IntKind.i64.wrap ((i.tmod (n : Int) + (n : Int)).tmod (n : Int) + (k : Int)) = (K : Int) + (k : Int) := by rw [HKK.out, IntWalk.i64_in _ (by omega)]
          have hw4 : ((K : Int) + (k : Int)).tmod (n : Int) = (J : Int) := by rw [← hJ, ← Int.natCast_add]; rfl
          clear hJ
          go_wp2
          refine wp_region_floatT 2 11 (fun w' => w'.cell? ⟨zz.1.heap.size, 2, none⟩ = some (.slice B m c)) (by kernel_rfl) (by kernel_rfl) (by kernel_rfl) (fun z_ => (z_.cell gl).trans g2) ?_
          simp only [List.take_succ_cons, List.take_zero, List.drop_succ_cons, List.drop_zero]
          refine @takeS_cons _ _ _ _ _ _ _ ?_ rfl (fun w' hSw => ?_) ?_
          rotate_left
          · ((try dsimp only at hSw); go_simp; try with_reducible rfl)
          try simp only [Act.put, List.setIfInBounds_toArray, List.set_cons_zero, List.set_cons_succ]
          refine @takeS_cons _ _ _ _ _ _ _ ?_ rfl (fun w' hSw => ?_) ?_
          rotate_left
          · ((try dsimp only at hSw); go_simp; try with_reducible rfl)
          try simp only [Act.put, List.setIfInBounds_toArray, List.set_cons_zero, List.set_cons_succ]
          refine takeS_nil ?_
          ((repeat' (first | go_big_quiet_step (fail) | ((refine wpQuiet_guard rfl rfl rfl rfl (fun hg => ?_) (fun hg => ?_)) <;> (fail_if_success (first | guard_hyp hg : true = true | guard_hyp hg : false = false)) <;> (try simp only [decide_eq_true_eq, decide_eq_false_iff_not] at hg) <;> simp only [Act.put, List.setIfInBounds_toArray, List.set_cons_zero, List.set_cons_succ]))); all_goals ((with_reducible refine wpQuiet_nil ?_); intro zq))
          have HSR := Lib.hid (rd_one zq.1 encPt_len 31 p _ rfl rfl)
          have HZB := Lib.hid (show Below zz.1.heap.size zz.1 (zq.1.alloc (.cells #[.int .i64 p.1, .int .i64 p.2] 31)) from (by repeat (first | with_reducible (first | exact blA | exact blB | refine blC _ ?_ | refine blD ?_ ?_ _ | refine blE ?_ | refine blF _ ?_ | refine blG ?_ _ | refine blH ?_ | refine blI ?_ ?_ _) | (simp only [World.size_alloc]; omega) | (simp <;> omega))))
          have ht0 : (zq.1.alloc (.cells #[.int .i64 p.1, .int .i64 p.2] 31)).cell? ⟨zz.1.heap.size, 2, none⟩ = some (.slice B m c) := (World.cell?_alloc_lt _ _ _ (zq.lt0 gl)).trans ((zq.cell gl).trans g2)
          intro K23 hK23
          go_simp
          refine hK23 _ _ (.inr ht0) ?_
          intro K24 hK24
          (skip; (refine step_app _ rfl _ _ 22 rfl encPt_len (by decide) oneP (zz.1.heap.size + 1) 31 (.agg #[.int .i64 0, .int .i64 0]) 16 infoCell rfl Try.underlying22 (.slice B m c) _ _ _ (by first | rfl | simp [Act.eval, Act.put]) ((own_below HQ.out zq.2).alloc _) _ _ _ (by first | rfl | simp [Act.eval, Act.put]) (HSR.out) ?c1 (by decide) ?c2 ?_; (case c1 => (first | (simp only [List.length_append, List.length_cons, List.length_nil]; omega) | omega | (simp; omega))); (case c2 => exact (by repeat (first | with_reducible exact Nat.le_refl _ | assumption | with_reducible refine le_alloc ?_ _ | with_reducible refine le_drew ?_ | with_reducible refine Kin.le _ ?_ | assumption | omega | (simp only [World.size_alloc]; omega)))); intro v' w1 hown' hg hbel hat'; ((obtain ⟨B', n', c', rfl⟩ := own_slice hown'); have HPn := Lib.hid (blk_app hg (by decide) (by repeat (first | with_reducible (first | exact blA | exact blB | refine blC _ ?_ | refine blD ?_ ?_ _ | refine blE ?_ | refine blF _ ?_ | refine blG ?_ _ | refine blH ?_ | refine blI ?_ ?_ _) | (simp only [World.size_alloc]; omega) | (simp <;> omega))) ((own_below HQ.out zq.2).alloc _) HP.out); have p1 : w1.cell? ⟨zz.1.heap.size, 2, none⟩ = some (.slice B m c) := HPn.out.cell 2; have pf1 : w1.frozen? ⟨zz.1.heap.size, 2, none⟩ = false := HPn.out.frozen 2; have pl1 := HPn.out.lt; have HOO := Lib.hid hown'; have HBE := Lib.hid hbel; clear hown' hg hbel hat')))
          refine hK24 _ _ (.inr p1) ?_
          intro K25 hK25
          go_simp
          refine hK25 _ _ (.inr p1) ?_
          intro K26 hK26
          go_simp
          refine hK26 _ _ (.inl rfl) ?_
          clear hK23 hK24 hK25 hK26 K23 K24 K25 K26
          refine wpListT_nil ?_
          (try simp only [Exit.then])
          go_wp2
          go_roundw
          case rel => exact ⟨k + 1, by omega, by go_num, B', n', c', Lib.hid (HPn.out.set_ 2 _), Lib.hid (by rw [HCS.out]; exact own_grownBy HOO.out (grownBy_set _) (own_ne HOO.out HPn.out (by decide))), ⟨_, Below.setCell (HZB.out.trans (HBE.out.mono (Nat.le_succ _))) (Nat.le_refl _) _⟩, rfl⟩
          case measure => simp [intOf]; omega
        · have hkn : k = n := by omega
          subst hkn
          have HRF := Lib.hid (show R.take k = R from List.take_of_length_le (by rw [HRL.out]; exact Nat.le_refl _))
          rw [HRF.out] at HQ
          have hq := HQ.out
          have HNE := Lib.hid (own_neC (g := w.heap.size + 1) (OwnC.of hq) (by omega))
          have hrd := Rd.own encPt_len hq
          obtain ⟨A3, cap3, e3, _, _⟩ := hrd.open_
          injection e3 with e31 e32 e33
          subst e31 e32 e33
          have HU := Lib.hid hrd
          have D2 := Lib.hid (B2.out.below z2.2)
          have d0 : z2.1.cell? ⟨w.heap.size + 1, 0, none⟩ = some (.int .i64 0) := D2.out.cell 0
          have d1 : z2.1.cell? ⟨w.heap.size + 1, 1, none⟩ = some (.bool false) := D2.out.cell 1
          have d2 : z2.1.cell? ⟨w.heap.size + 1, 2, none⟩ = some (.slice none 0 0) := D2.out.cell 2
          have e0 : z2.1.frozen? ⟨w.heap.size + 1, 0, none⟩ = false := D2.out.frozen 0
          have e1 : z2.1.frozen? ⟨w.heap.size + 1, 1, none⟩ = false := D2.out.frozen 1
          have e2 : z2.1.frozen? ⟨w.heap.size + 1, 2, none⟩ = false := D2.out.frozen 2
          have dl := D2.out.lt
          clear hrd hq hn2
          go_wp2
          ((try simp only [Exit.inBlock, Exit.then]); refine bodyPost_ret (results_cell_row rfl _ _ _ _ _ (0, 0) _ rfl (((D2.out.set_ 0 _).set_ 1 _).set_ 2 _) Try.underlying24 rfl (by kernel_rfl)) rfl ?_)
          exact ⟨⟨_, rfl, by rw [HR.out]; exact ⟨_, _, rfl, rd_set3 HU.out HNE.out _ _ _⟩⟩, (by repeat (first | with_reducible (first | exact blA | exact blB | refine blC _ ?_ | refine blD ?_ ?_ _ | refine blE ?_ | refine blF _ ?_ | refine blG ?_ _ | refine blH ?_ | refine blI ?_ ?_ _) | (simp only [World.size_alloc]; omega) | (simp <;> omega)))⟩
end Go.Proofs.Ytomndgjnhhchdaa

/- What the chapter's Dilate returns. -/
import Derived.Test.YtjppaknajdbkgaaMorphRaw
import Derived.Test.YtjppaknajdbkgaaMorphDil
import Derived.Test.YtjppaknajdbkgaaRunsOwn
namespace Go.Proofs.Ytjppaknajdbkgaa
set_option linter.unusedSimpArgs false
set_option linter.unusedVariables false
open Go.RowKit Runs Reg
attribute [local go_sem] Kin.cell Kin.frozen Kin.lt0 Kin.lt1 Kin.lt2 Kin.lt3 run_mkf
theorem reach20_is {b : Bool} (k : Int) (w : World) (hb : reachOk k = b) : Calls Try.prog 46 #[.int .i64 k] w fun e w' => e = .returned (.bool b) ∧ Below w.heap.size w w' := by subst hb; exact reach20_any k w
theorem box18_is {p : (Int × Int) × (Int × Int)} {b : Bool} (v : Value) (rows : List Reg.Row) (w : World) (h : RdReg w v rows) (hbd : RBd rows) (hp : boxR rows = p) (hb : boxOk rows = b) :
    Calls Try.prog 47 #[v] w fun e w' => e = .returned (.tuple #[.agg #[.int .i64 p.1.1, .int .i64 p.1.2], .agg #[.int .i64 p.2.1, .int .i64 p.2.2], .bool b]) ∧ Below w.heap.size w w' := by subst hp hb; exact box18_any v rows w h hbd
set_option maxRecDepth 100000 in
set_option maxHeartbeats 8000000 in
theorem rdil_none (v : Value) (rows : List Reg.Row) (k : Int) (w : World) (h : RdReg w v rows) (hbd : RBd rows) (hn : (reachOk k && rvalid rows) = false ∨ ((reachOk k && rvalid rows) = true ∧ rows = [])) :
    Calls Try.prog 17 #[v, .int .i64 k] w fun e w' => (∃ A n c, e = .returned (.tuple #[.agg #[.slice A n c], .int .i64 (dilE rows k)]) ∧ RdReg w' (.agg #[.slice A n c]) (dilR rows k)) ∧ Below w.heap.size w w' := by
  have H := Lib.hid h
  have Hbd := Lib.hid hbd
  obtain ⟨A, capA, rfl⟩ := h.slice_
  clear h hbd
  rcases hn with hn | ⟨hn, rfl⟩
  · have e1 : dilE rows k = 1 := by unfold dilE; rw [if_pos hn]
    have e2 : dilR rows k = [] := by unfold dilR; rw [if_neg (by rw [e1]; simp)]
    rw [e1, e2]
    clear e1 e2
    cases hv : rvalid rows
    · clear hn
      go_enter Try.func17, Try.ntmps17
      go_wp2_with (go_at_call 31; (with_reducible refine (Kin.callK (W := (w.alloc (.cells #[.slice A rows.length capA] 24)).alloc (.cells #[.slice none 0 0] 24)) (by repeat (first | with_reducible (first | exact blA | exact blB | refine blC _ ?_ | refine blD ?_ ?_ _ | refine blE ?_ | refine blF _ ?_ | refine blG ?_ _ | refine blH ?_ | refine blI ?_ ?_ _) | (simp only [World.size_alloc]; omega) | (simp <;> omega))) (valid18_is _ rows _ (H.out.below (by repeat (first | with_reducible (first | exact blA | exact blB | refine blC _ ?_ | refine blD ?_ ?_ _ | refine blE ?_ | refine blF _ ?_ | refine blG ?_ _ | refine blH ?_ | refine blI ?_ ?_ _) | (simp only [World.size_alloc]; omega) | (simp <;> omega)))) Hbd.out hv)).mono ?_); rintro e w' ⟨z, rfl, hz, rfl⟩)
      ((try simp only [Exit.inBlock, Exit.then]); refine bodyPost_ret (results_cell_t rfl _ _ (0, 0) rfl (z.boxes2.2.set_ 0 _) Try.underlying24 rfl (by kernel_rfl)) rfl ?_)
      exact ⟨⟨_, _, _, rfl, RdReg.nil⟩, (by repeat (first | with_reducible (first | exact blA | exact blB | refine blC _ ?_ | refine blD ?_ ?_ _ | refine blE ?_ | refine blF _ ?_ | refine blG ?_ _ | refine blH ?_ | refine blI ?_ ?_ _) | (simp only [World.size_alloc]; omega) | (simp <;> omega)))⟩
    · have hk : reachOk k = false := by simpa [hv] using hn
      clear hn
      go_enter Try.func17, Try.ntmps17
      go_wp2_with (first | (go_at_call 31; (with_reducible refine (Kin.callK (W := (w.alloc (.cells #[.slice A rows.length capA] 24)).alloc (.cells #[.slice none 0 0] 24)) (by repeat (first | with_reducible (first | exact blA | exact blB | refine blC _ ?_ | refine blD ?_ ?_ _ | refine blE ?_ | refine blF _ ?_ | refine blG ?_ _ | refine blH ?_ | refine blI ?_ ?_ _) | (simp only [World.size_alloc]; omega) | (simp <;> omega))) (valid18_is _ rows _ (H.out.below (by repeat (first | with_reducible (first | exact blA | exact blB | refine blC _ ?_ | refine blD ?_ ?_ _ | refine blE ?_ | refine blF _ ?_ | refine blG ?_ _ | refine blH ?_ | refine blI ?_ ?_ _) | (simp only [World.size_alloc]; omega) | (simp <;> omega)))) Hbd.out hv)).mono ?_); rintro e w' ⟨z, rfl, hz, rfl⟩) | (go_at_call 46; (with_reducible refine (Kin.callK (W := (w.alloc (.cells #[.slice A rows.length capA] 24)).alloc (.cells #[.slice none 0 0] 24)) (by repeat (first | with_reducible (first | exact blA | exact blB | refine blC _ ?_ | refine blD ?_ ?_ _ | refine blE ?_ | refine blF _ ?_ | refine blG ?_ _ | refine blH ?_ | refine blI ?_ ?_ _) | (simp only [World.size_alloc]; omega) | (simp <;> omega))) (reach20_is k _ hk)).mono ?_); rintro e w' ⟨z, rfl, hz, rfl⟩))
      ((try simp only [Exit.inBlock, Exit.then]); refine bodyPost_ret (results_cell_t rfl _ _ (0, 0) rfl (z.boxes2.2.set_ 0 _) Try.underlying24 rfl (by kernel_rfl)) rfl ?_)
      exact ⟨⟨_, _, _, rfl, RdReg.nil⟩, (by repeat (first | with_reducible (first | exact blA | exact blB | refine blC _ ?_ | refine blD ?_ ?_ _ | refine blE ?_ | refine blF _ ?_ | refine blG ?_ _ | refine blH ?_ | refine blI ?_ ?_ _) | (simp only [World.size_alloc]; omega) | (simp <;> omega)))⟩
  · have e1 : dilE [] k = 0 := by unfold dilE; rw [if_neg (by simp [hn]), if_pos rfl]
    have e2 : dilR [] k = [] := by unfold dilR; rw [if_neg (by simp)]
    rw [e1, e2]
    clear e1 e2
    have hv : rvalid [] = true := rvalid_nil
    have hk : reachOk k = true := by simpa [hv] using hn
    clear hn
    have H0 := Lib.hid (show RdReg w (.agg #[.slice A 0 capA]) [] from H.out)
    go_enter Try.func17, Try.ntmps17
    go_wp2_with (first
      | (go_at_call 31; (with_reducible refine (Kin.callK (W := (w.alloc (.cells #[.slice A 0 capA] 24)).alloc (.cells #[.slice none 0 0] 24)) (by repeat (first | with_reducible (first | exact blA | exact blB | refine blC _ ?_ | refine blD ?_ ?_ _ | refine blE ?_ | refine blF _ ?_ | refine blG ?_ _ | refine blH ?_ | refine blI ?_ ?_ _) | (simp only [World.size_alloc]; omega) | (simp <;> omega))) (valid18_is _ [] _ (H0.out.below (by repeat (first | with_reducible (first | exact blA | exact blB | refine blC _ ?_ | refine blD ?_ ?_ _ | refine blE ?_ | refine blF _ ?_ | refine blG ?_ _ | refine blH ?_ | refine blI ?_ ?_ _) | (simp only [World.size_alloc]; omega) | (simp <;> omega)))) Hbd.out hv)).mono ?_); rintro e w' ⟨z, rfl, hz, rfl⟩)
      | (go_at_call 46; (with_reducible refine (Kin.callK (W := (w.alloc (.cells #[.slice A 0 capA] 24)).alloc (.cells #[.slice none 0 0] 24)) (by repeat (first | with_reducible (first | exact blA | exact blB | refine blC _ ?_ | refine blD ?_ ?_ _ | refine blE ?_ | refine blF _ ?_ | refine blG ?_ _ | refine blH ?_ | refine blI ?_ ?_ _) | (simp only [World.size_alloc]; omega) | (simp <;> omega))) (reach20_is k _ hk)).mono ?_); rintro e w' ⟨z, rfl, hz, rfl⟩)
      | (go_at_call 47; (with_reducible refine (Kin.callK (W := (w.alloc (.cells #[.slice A 0 capA] 24)).alloc (.cells #[.slice none 0 0] 24)) (by repeat (first | with_reducible (first | exact blA | exact blB | refine blC _ ?_ | refine blD ?_ ?_ _ | refine blE ?_ | refine blF _ ?_ | refine blG ?_ _ | refine blH ?_ | refine blI ?_ ?_ _) | (simp only [World.size_alloc]; omega) | (simp <;> omega))) (box18_is (p := ((0, 0), (0, 0))) _ [] _ (H0.out.below (by repeat (first | with_reducible (first | exact blA | exact blB | refine blC _ ?_ | refine blD ?_ ?_ _ | refine blE ?_ | refine blF _ ?_ | refine blG ?_ _ | refine blH ?_ | refine blI ?_ ?_ _) | (simp only [World.size_alloc]; omega) | (simp <;> omega)))) Hbd.out (by simp [boxR]) (b := false) (by simp [boxOk]))).mono ?_); rintro e w' ⟨z, rfl, hz, rfl⟩; (have hB := Lib.hid z.boxes2.2; have q0 : (Kin.wd z).cell? ⟨w.heap.size + 1, 0, none⟩ = some (.slice none 0 0) := hB.out.cell 0; have qf : (Kin.wd z).frozen? ⟨w.heap.size + 1, 0, none⟩ = false := hB.out.frozen 0; have ql := hB.out.lt; have ql1 := Nat.lt_succ_of_lt ql; have ql2 : w.heap.size < (Kin.wd z).heap.size := Nat.lt_of_succ_lt ql)))
    ((try simp only [Exit.inBlock, Exit.then]); refine bodyPost_ret (results_cell_t rfl _ _ (0, 0) rfl ((hB.out.set_ 0 _).below (Below.alloc (Below.alloc (Below.refl _ _) (Nat.le_refl _) _) (le_alloc (Nat.le_refl _) _) _)) Try.underlying24 rfl (by kernel_rfl)) rfl ?_)
    exact ⟨⟨_, _, _, rfl, RdReg.nil⟩, (by repeat (first | with_reducible (first | exact blA | exact blB | refine blC _ ?_ | refine blD ?_ ?_ _ | refine blE ?_ | refine blF _ ?_ | refine blG ?_ _ | refine blH ?_ | refine blI ?_ ?_ _) | (simp only [World.size_alloc]; omega) | (simp <;> omega)))⟩
set_option maxRecDepth 100000 in
set_option maxHeartbeats 8000000 in
theorem rdil_far (v : Value) (rows : List Reg.Row) (k : Int) (w : World) (h : RdReg w v rows) (hbd : RBd rows) (hn : rows ≠ []) (hE : dilE rows k = 8) :
    Calls Try.prog 17 #[v, .int .i64 k] w fun e w' => (∃ A n c, e = .returned (.tuple #[.agg #[.slice A n c], .int .i64 (dilE rows k)]) ∧ RdReg w' (.agg #[.slice A n c]) (dilR rows k)) ∧ Below w.heap.size w w' := by
  have H := Lib.hid h
  have Hbd := Lib.hid hbd
  obtain ⟨A, capA, rfl⟩ := h.slice_
  clear h hbd
  have e2 : dilR rows k = [] := by unfold dilR; rw [if_neg (by rw [hE]; simp)]
  rw [hE, e2]
  clear e2
  obtain ⟨h1, h2⟩ : (reachOk k && rvalid rows) = true ∧ ((boxR rows).1.1 - k < -4096 ∨ (boxR rows).1.2 - k < -4096 ∨ 4096 ≤ (boxR rows).2.1 + k ∨ 4096 ≤ (boxR rows).2.2 + k) := by
    unfold dilE at hE
    split at hE
    · omega
    · try rw [if_neg hn] at hE
      split at hE
      · exact ⟨by simp_all, by assumption⟩
      · omega
  rw [Bool.and_eq_true] at h1
  obtain ⟨hk, hv⟩ := h1
  obtain ⟨k0, k1⟩ := reach_iff.1 hk
  have hb := box_bd hv hn
  have hok : boxOk rows = true := by cases rows <;> simp_all [boxOk]
  obtain ⟨⟨⟨lx, ly⟩, hx, hy⟩, hp⟩ : ∃ p, boxR rows = p := ⟨_, rfl⟩
  rw [hp] at h2 hb
  simp only at h2 hb
  have HP := Lib.hid hp
  clear hE hp hn
  have hw1 : IntKind.i64.wrap (lx - k) = lx - k := IntWalk.i64_in _ (by omega)
  have hw2 : IntKind.i64.wrap (ly - k) = ly - k := IntWalk.i64_in _ (by omega)
  have hw3 : IntKind.i64.wrap (hx + k) = hx + k := IntWalk.i64_in _ (by omega)
  have hw4 : IntKind.i64.wrap (hy + k) = hy + k := IntWalk.i64_in _ (by omega)
  have hc : lx - k < -4096 ∨ (¬ lx - k < -4096 ∧ ly - k < -4096) ∨ (¬ lx - k < -4096 ∧ ¬ ly - k < -4096 ∧ 4096 ≤ hx + k) ∨ (¬ lx - k < -4096 ∧ ¬ ly - k < -4096 ∧ ¬ 4096 ≤ hx + k ∧ 4096 ≤ hy + k) := by omega
  clear h2 hb k0 k1
  go_enter Try.func17, Try.ntmps17
  rcases hc with c1 | ⟨c1, c2⟩ | ⟨c1, c2, c3⟩ | ⟨c1, c2, c3, c4⟩
  all_goals
    go_wp2_with (first
      | (go_at_call 31; (with_reducible refine (Kin.callK (W := (w.alloc (.cells #[.slice A rows.length capA] 24)).alloc (.cells #[.slice none 0 0] 24)) (by repeat (first | with_reducible (first | exact blA | exact blB | refine blC _ ?_ | refine blD ?_ ?_ _ | refine blE ?_ | refine blF _ ?_ | refine blG ?_ _ | refine blH ?_ | refine blI ?_ ?_ _) | (simp only [World.size_alloc]; omega) | (simp <;> omega))) (valid18_is _ rows _ (H.out.below (by repeat (first | with_reducible (first | exact blA | exact blB | refine blC _ ?_ | refine blD ?_ ?_ _ | refine blE ?_ | refine blF _ ?_ | refine blG ?_ _ | refine blH ?_ | refine blI ?_ ?_ _) | (simp only [World.size_alloc]; omega) | (simp <;> omega)))) Hbd.out hv)).mono ?_); rintro e w' ⟨z, rfl, hz, rfl⟩)
      | (go_at_call 46; (with_reducible refine (Kin.callK (W := (w.alloc (.cells #[.slice A rows.length capA] 24)).alloc (.cells #[.slice none 0 0] 24)) (by repeat (first | with_reducible (first | exact blA | exact blB | refine blC _ ?_ | refine blD ?_ ?_ _ | refine blE ?_ | refine blF _ ?_ | refine blG ?_ _ | refine blH ?_ | refine blI ?_ ?_ _) | (simp only [World.size_alloc]; omega) | (simp <;> omega))) (reach20_is k _ hk)).mono ?_); rintro e w' ⟨z, rfl, hz, rfl⟩)
      | (go_at_call 47; (with_reducible refine (Kin.callK (W := (w.alloc (.cells #[.slice A rows.length capA] 24)).alloc (.cells #[.slice none 0 0] 24)) (by repeat (first | with_reducible (first | exact blA | exact blB | refine blC _ ?_ | refine blD ?_ ?_ _ | refine blE ?_ | refine blF _ ?_ | refine blG ?_ _ | refine blH ?_ | refine blI ?_ ?_ _) | (simp only [World.size_alloc]; omega) | (simp <;> omega))) (box18_is _ rows _ (H.out.below (by repeat (first | with_reducible (first | exact blA | exact blB | refine blC _ ?_ | refine blD ?_ ?_ _ | refine blE ?_ | refine blF _ ?_ | refine blG ?_ _ | refine blH ?_ | refine blI ?_ ?_ _) | (simp only [World.size_alloc]; omega) | (simp <;> omega)))) Hbd.out HP.out hok)).mono ?_); rintro e w' ⟨z, rfl, hz, rfl⟩; (have hB := Lib.hid z.boxes2.2; have q0 : (Kin.wd z).cell? ⟨w.heap.size + 1, 0, none⟩ = some (.slice none 0 0) := hB.out.cell 0; have qf : (Kin.wd z).frozen? ⟨w.heap.size + 1, 0, none⟩ = false := hB.out.frozen 0; have ql := hB.out.lt; have ql1 := Nat.lt_succ_of_lt ql; have ql2 : w.heap.size < (Kin.wd z).heap.size := Nat.lt_of_succ_lt ql)))
    ((try simp only [Exit.inBlock, Exit.then]); refine bodyPost_ret (results_cell_t rfl _ _ (0, 0) rfl ((hB.out.set_ 0 _).below (Below.alloc (Below.alloc (Below.refl _ _) (Nat.le_refl _) _) (le_alloc (Nat.le_refl _) _) _)) Try.underlying24 rfl (by kernel_rfl)) rfl ?_)
    exact ⟨⟨_, _, _, rfl, RdReg.nil⟩, (by repeat (first | with_reducible (first | exact blA | exact blB | refine blC _ ?_ | refine blD ?_ ?_ _ | refine blE ?_ | refine blF _ ?_ | refine blG ?_ _ | refine blH ?_ | refine blI ?_ ?_ _) | (simp only [World.size_alloc]; omega) | (simp <;> omega)))⟩
set_option maxRecDepth 100000 in
set_option maxHeartbeats 16000000 in
theorem rdil_go (v : Value) (rows : List Reg.Row) (k : Int) (w : World) (h : RdReg w v rows) (hbd : RBd rows) (hn : rows ≠ []) (hE : dilE rows k = 0) :
    Calls Try.prog 17 #[v, .int .i64 k] w fun e w' => (∃ A n c, e = .returned (.tuple #[.agg #[.slice A n c], .int .i64 (dilE rows k)]) ∧ RdReg w' (.agg #[.slice A n c]) (dilR rows k)) ∧ Below w.heap.size w w' := by
  have H := Lib.hid h
  have Hbd := Lib.hid hbd
  obtain ⟨A, capA, rfl⟩ := h.slice_
  clear h hbd
  have e2 : dilR rows k = dilRows rows k := by unfold dilR; rw [if_pos ⟨hE, hn⟩]
  rw [hE, e2]
  clear e2
  obtain ⟨k0, k1, hv, hbx⟩ := dilE_zero hE
  have hbx := hbx hn
  have hk : reachOk k = true := reach_iff.2 ⟨k0, k1⟩
  have hb := box_bd hv hn
  have hok : boxOk rows = true := by cases rows <;> simp_all [boxOk]
  have HD := Lib.hid (show dilRows rows k = rowsOn (dilW rows k) (upFrom ((boxR rows).1.2 - k) ((boxR rows).2.2 + k + 1 - ((boxR rows).1.2 - k)).toNat) from rfl)
  have HE0 := Lib.hid hE
  have HIN := Lib.hid (fun y => dilW_in hE hn y)
  have HVR := Lib.hid (rvalid_iff.1 hv)
  have hlr := (vreg_len (rvalid_iff.1 hv)).1
  obtain ⟨⟨⟨lx, ly⟩, hx, hy⟩, hp⟩ : ∃ p, boxR rows = p := ⟨_, rfl⟩
  rw [hp] at hbx hb HD
  simp only at hbx hb HD
  have HP := Lib.hid hp
  clear hE hp hn
  have hw1 : IntKind.i64.wrap (lx - k) = lx - k := IntWalk.i64_in _ (by omega)
  have hw2 : IntKind.i64.wrap (ly - k) = ly - k := IntWalk.i64_in _ (by omega)
  have hw3 : IntKind.i64.wrap (hx + k) = hx + k := IntWalk.i64_in _ (by omega)
  have hw4 : IntKind.i64.wrap (hy + k) = hy + k := IntWalk.i64_in _ (by omega)
  have c1 : ¬ lx - k < -4096 := by omega
  have c2 : ¬ ly - k < -4096 := by omega
  have c3 : ¬ 4096 ≤ hx + k := by omega
  have c4 : ¬ 4096 ≤ hy + k := by omega
  go_enter Try.func17, Try.ntmps17
  go_wp2_with (first
      | (go_at_call 31; (with_reducible refine (Kin.callK (W := (w.alloc (.cells #[.slice A rows.length capA] 24)).alloc (.cells #[.slice none 0 0] 24)) (by repeat (first | with_reducible (first | exact blA | exact blB | refine blC _ ?_ | refine blD ?_ ?_ _ | refine blE ?_ | refine blF _ ?_ | refine blG ?_ _ | refine blH ?_ | refine blI ?_ ?_ _) | (simp only [World.size_alloc]; omega) | (simp <;> omega))) (valid18_is _ rows _ (H.out.below (by repeat (first | with_reducible (first | exact blA | exact blB | refine blC _ ?_ | refine blD ?_ ?_ _ | refine blE ?_ | refine blF _ ?_ | refine blG ?_ _ | refine blH ?_ | refine blI ?_ ?_ _) | (simp only [World.size_alloc]; omega) | (simp <;> omega)))) Hbd.out hv)).mono ?_); rintro e w' ⟨z, rfl, hz, rfl⟩)
      | (go_at_call 46; (with_reducible refine (Kin.callK (W := (w.alloc (.cells #[.slice A rows.length capA] 24)).alloc (.cells #[.slice none 0 0] 24)) (by repeat (first | with_reducible (first | exact blA | exact blB | refine blC _ ?_ | refine blD ?_ ?_ _ | refine blE ?_ | refine blF _ ?_ | refine blG ?_ _ | refine blH ?_ | refine blI ?_ ?_ _) | (simp only [World.size_alloc]; omega) | (simp <;> omega))) (reach20_is k _ hk)).mono ?_); rintro e w' ⟨z, rfl, hz, rfl⟩)
      | (go_at_call 47; (with_reducible refine (Kin.callK (W := (w.alloc (.cells #[.slice A rows.length capA] 24)).alloc (.cells #[.slice none 0 0] 24)) (by repeat (first | with_reducible (first | exact blA | exact blB | refine blC _ ?_ | refine blD ?_ ?_ _ | refine blE ?_ | refine blF _ ?_ | refine blG ?_ _ | refine blH ?_ | refine blI ?_ ?_ _) | (simp only [World.size_alloc]; omega) | (simp <;> omega))) (box18_is _ rows _ (H.out.below (by repeat (first | with_reducible (first | exact blA | exact blB | refine blC _ ?_ | refine blD ?_ ?_ _ | refine blE ?_ | refine blF _ ?_ | refine blG ?_ _ | refine blH ?_ | refine blI ?_ ?_ _) | (simp only [World.size_alloc]; omega) | (simp <;> omega)))) Hbd.out HP.out hok)).mono ?_); rintro e w' ⟨z, rfl, hz, rfl⟩; (have hB := Lib.hid z.boxes2.2; have q0 : (Kin.wd z).cell? ⟨w.heap.size + 1, 0, none⟩ = some (.slice none 0 0) := hB.out.cell 0; have qf : (Kin.wd z).frozen? ⟨w.heap.size + 1, 0, none⟩ = false := hB.out.frozen 0; have ql := hB.out.lt; have ql1 := Nat.lt_succ_of_lt ql; have ql2 : w.heap.size < (Kin.wd z).heap.size := Nat.lt_of_succ_lt ql)))
  obtain ⟨yA, hX⟩ : ∃ yA : Kin z.1, yA.1 = (z.1.alloc (.cells #[.int .i64 lx, .int .i64 ly] 38)).alloc (.cells #[.int .i64 hx, .int .i64 hy] 38) := ⟨⟨(z.1.alloc (.cells #[.int .i64 lx, .int .i64 ly] 38)).alloc (.cells #[.int .i64 hx, .int .i64 hy] 38), (by repeat (first | with_reducible (first | exact blA | exact blB | refine blC _ ?_ | refine blD ?_ ?_ _ | refine blE ?_ | refine blF _ ?_ | refine blG ?_ _ | refine blH ?_ | refine blI ?_ ?_ _) | (simp only [World.size_alloc]; omega) | (simp <;> omega)))⟩, rfl⟩
  rw [← hX]
  have hsz : yA.1.heap.size = z.1.heap.size + 1 + 1 := by rw [hX]; simp
  have a2 : yA.1.cell? ⟨z.1.heap.size + 1, 1, none⟩ = some (.int .i64 hy) := by
    have h := (Blk.new (z.1.alloc (.cells #[.int .i64 lx, .int .i64 ly] 38)) 38 #[.int .i64 hx, .int .i64 hy]).cell 1
    rw [← hX] at h
    simpa using h
  have a3 : z.1.heap.size + 1 < yA.1.heap.size := by omega
  have HA0 := Lib.hid (H.out.below (show Below w.heap.size w yA.1 from (by repeat (first | with_reducible (first | exact blA | exact blB | refine blC _ ?_ | refine blD ?_ ?_ _ | refine blE ?_ | refine blF _ ?_ | refine blG ?_ _ | refine blH ?_ | refine blI ?_ ?_ _) | (simp only [World.size_alloc]; omega) | (simp <;> omega)))))
  have HZr := Lib.hid (rows_op (by have := HA0.out; obtain ⟨s, e, h⟩ := this; cases e; exact h : RdRows yA.1 (.slice A rows.length capA) rows))
  have HBy := Lib.hid (hB.out.below yA.2)
  have HP0 := Lib.hid (show Blk (yA.1.alloc (.cells #[.slice none 0 0] 24)) (z.1.heap.size + 1 + 1) 24 #[.slice none 0 0] from by have h := Blk.new yA.1 24 #[.slice none 0 0]; rwa [hsz] at h)
  have dw := yA.lt0 ql
  have dw2 := yA.lt0 ql2
  have cw : yA.1.cell? ⟨w.heap.size, 0, none⟩ = some (.slice A rows.length capA) := (yA.cell ql2).trans (z.boxes2.1.cell 0)
  have hwy : Below w.heap.size w yA.1 := (by repeat (first | with_reducible (first | exact blA | exact blB | refine blC _ ?_ | refine blD ?_ ?_ _ | refine blE ?_ | refine blF _ ?_ | refine blG ?_ _ | refine blH ?_ | refine blI ?_ ?_ _) | (simp only [World.size_alloc]; omega) | (simp <;> omega)))
  have hsz1 : yA.1.heap.size ≤ z.1.heap.size + 1 + 1 := by omega
  clear hX hw1 hw3 c1 c2 c3 c4 hsz HP HA0
  go_loopw [10] (fun o wr => ∃ n : Nat, n ≤ (hy + k + 1 - (ly - k)).toNat ∧ o = .int .i64 (ly - k + n) ∧ ∃ S, Hid (OwnRows (yA.1.heap.size + 1) wr S (rowsOn (dilW rows k) (upFrom (ly - k) n))) ∧ Hid (Blk wr (z.1.heap.size + 1 + 1) 24 #[S]) ∧ Hid (Below yA.1.heap.size yA.1 wr)) (fun o _ => (hy + k + 1 - intOf o).toNat)
  case atStart => exact ⟨0, Nat.zero_le _, by simp, _, Lib.hid OwnN.nil, HP0, Lib.hid (by repeat (first | with_reducible (first | exact blA | exact blB | refine blC _ ?_ | refine blD ?_ ?_ _ | refine blE ?_ | refine blF _ ?_ | refine blG ?_ _ | refine blH ?_ | refine blI ?_ ?_ _) | (simp only [World.size_alloc]; omega) | (simp <;> omega)))⟩
  case round =>
    clear HP0
    obtain ⟨n, hn, rfl, S, HO, HP6, hyB⟩ := hrel
    obtain ⟨y6, rfl⟩ : ∃ y6 : Kin yA.1, y6.1 = wr := ⟨⟨wr, hyB.out⟩, rfl⟩
    clear hyB
    by_cases hlt : ly - k + (n : Int) ≤ hy + k
    · obtain ⟨hs, hown, hnest, hap⟩ := HO.out
      obtain ⟨AS, nS, cS, rfl⟩ := own_slice hown
      have HOW := Lib.hid hown
      have HNE := Lib.hid hnest
      have HAP := Lib.hid hap
      have hhl := hnest.1
      have hrl := rowsOn_len (dilW rows k) (upFrom (ly - k) n)
      rw [upFrom_len] at hrl
      have hwn : IntKind.i64.wrap (ly - k + (n : Int) + 1) = ly - k + (n : Int) + 1 := IntWalk.i64_in _ (by omega)
      have lch := sepIn_len (HIN.out (ly - k + (n : Int)))
      clear hown hnest hap
      obtain ⟨Y, hY⟩ : ∃ Y, ly - k + (n : Int) = Y := ⟨_, rfl⟩
      have HY := Lib.hid hY
      rw [hY] at hlt hwn lch ⊢
      have hY1 : -4160 ≤ Y := by omega
      have hY2 : Y ≤ 4160 := by omega
      have hwa : IntKind.i64.wrap (Y - k) = Y - k := IntWalk.i64_in _ (by omega)
      have hwb : IntKind.i64.wrap (Y + k) = Y + k := IntWalk.i64_in _ (by omega)
      clear hY
      go_wp2
      go_loopw [11, 76] (fun l i wr => ∃ j : Nat, j ≤ rows.length ∧ i = .int .i64 j ∧ Hid (OwnR y6.1.heap.size wr l (rawG (wdS k Y) rows j)) ∧ ∃ z : Kin y6.1, z.1 = wr) (fun _ i _ => rows.length - (intOf i).toNat)
      case atStart => exact ⟨0, Nat.zero_le _, rfl, Lib.hid OwnR.nil, ⟨_, Below.refl _ _⟩, rfl⟩
      case round =>
        obtain ⟨j, hj, rfl, HL, z7, rfl⟩ := hrel
        by_cases hlt2 : j < rows.length
        · obtain ⟨r, hr⟩ : ∃ el_, rows[j]? = some el_ := ⟨_, List.getElem?_eq_getElem hlt2⟩
          obtain ⟨bA, offA, rfl, hbA, hcA⟩ := HZr.out j _ hr
          obtain ⟨T, capT, r_0, r_1, hcapT, hrT⟩ := hcA j r hr
          have HRT := Lib.hid hrT
          have Hr := Lib.hid hr
          have hrm := HVR.out.1 r (List.mem_of_getElem? hr)
          have hri := (fine_sepIn.1 hrm.2).1
          have HRI := Lib.hid hri
          have hrl2 := sepIn_len hri
          have hry : -4096 ≤ r.1 ∧ r.1 < 4096 := by have := hrm.1; unfold okC at this; simpa using this
          have hraw := rawG_len (wd := wdS k Y) HVR.out j
          have hbA2 : bA < yA.1.heap.size + 1 := by omega
          clear hr hcA hrT hrm hri
          by_cases hq1 : r.1 < Y - k
          · go_wp2
            go_roundw
            case rel => exact ⟨j + 1, by omega, by go_num, Lib.hid (by rw [rawG_no Hr.out (by unfold wdS; rw [if_pos (.inl hq1)]; decide)]; exact HL.out.below (by repeat (first | with_reducible (first | exact blA | exact blB | refine blC _ ?_ | refine blD ?_ ?_ _ | refine blE ?_ | refine blF _ ?_ | refine blG ?_ _ | refine blH ?_ | refine blI ?_ ?_ _) | (simp only [World.size_alloc]; omega) | (simp <;> omega)))), ⟨z7.1.alloc (.cells #[.int .i64 r.1, .slice T r.2.length capT] 47), (by repeat (first | with_reducible (first | exact blA | exact blB | refine blC _ ?_ | refine blD ?_ ?_ _ | refine blE ?_ | refine blF _ ?_ | refine blG ?_ _ | refine blH ?_ | refine blI ?_ ?_ _) | (simp only [World.size_alloc]; omega) | (simp <;> omega)))⟩, rfl⟩
            case measure => simp [intOf]; omega
          · by_cases hq2 : Y + k < r.1
            · go_wp2
              go_roundw
              case rel => exact ⟨j + 1, by omega, by go_num, Lib.hid (by rw [rawG_no Hr.out (by unfold wdS; rw [if_pos (.inr hq2)]; decide)]; exact HL.out.below (by repeat (first | with_reducible (first | exact blA | exact blB | refine blC _ ?_ | refine blD ?_ ?_ _ | refine blE ?_ | refine blF _ ?_ | refine blG ?_ _ | refine blH ?_ | refine blI ?_ ?_ _) | (simp only [World.size_alloc]; omega) | (simp <;> omega)))), ⟨z7.1.alloc (.cells #[.int .i64 r.1, .slice T r.2.length capT] 47), (by repeat (first | with_reducible (first | exact blA | exact blB | refine blC _ ?_ | refine blD ?_ ?_ _ | refine blE ?_ | refine blF _ ?_ | refine blG ?_ _ | refine blH ?_ | refine blI ?_ ?_ _) | (simp only [World.size_alloc]; omega) | (simp <;> omega)))⟩, rfl⟩
              case measure => simp [intOf]; omega
            · have HWD := Lib.hid (show wdS k Y r.1 = k from by unfold wdS; rw [if_neg (by omega)])
              have HT := Lib.hid (Rd.op HRT.out)
              have HLT := Lib.hid HRT.out
              go_wp2
              obtain ⟨yR, hyR⟩ : ∃ yR : Kin y6.1, yR.1 = z7.1.alloc (.cells #[.int .i64 r.1, .slice T r.2.length capT] 47) := ⟨⟨z7.1.alloc (.cells #[.int .i64 r.1, .slice T r.2.length capT] 47), (by repeat (first | with_reducible (first | exact blA | exact blB | refine blC _ ?_ | refine blD ?_ ?_ _ | refine blE ?_ | refine blF _ ?_ | refine blG ?_ _ | refine blH ?_ | refine blI ?_ ?_ _) | (simp only [World.size_alloc]; omega) | (simp <;> omega)))⟩, rfl⟩
              rw [← hyR]
              have HLR := Lib.hid (show OwnR y6.1.heap.size yR.1 u11 (rawG (wdS k Y) rows j) from by rw [hyR]; exact HL.out.below (by repeat (first | with_reducible (first | exact blA | exact blB | refine blC _ ?_ | refine blD ?_ ?_ _ | refine blE ?_ | refine blF _ ?_ | refine blG ?_ _ | refine blH ?_ | refine blI ?_ ?_ _) | (simp only [World.size_alloc]; omega) | (simp <;> omega))))
              clear hyR HL
              go_loopw [11, 97] (fun l i wr => ∃ m : Nat, m ≤ r.2.length ∧ i = .int .i64 m ∧ Hid (OwnR y6.1.heap.size wr l (rawG (wdS k Y) rows j ++ (r.2.take m).map (gr k))) ∧ ∃ z : Kin y6.1, z.1 = wr) (fun _ i _ => r.2.length - (intOf i).toNat)
              case atStart => exact ⟨0, Nat.zero_le _, rfl, Lib.hid (by simpa using HLR.out), yR, rfl⟩
              case round =>
                clear HLR
                obtain ⟨m, hm, rfl, HM, z8, rfl⟩ := hrel
                by_cases hlt3 : m < r.2.length
                · obtain ⟨e, he⟩ : ∃ el_, (r.2)[m]? = some el_ := ⟨_, List.getElem?_eq_getElem (by first | exact hlt3 | omega)⟩
                  obtain ⟨bT, offT, rfl, hbT, hcT⟩ := HT.out (m) _ he
                  have e_0 : yA.1.cell? ⟨bT, offT + m * 2, none⟩ = some (.int .i64 e.1) := by exact hcT (m) _ he 0 _ rfl
                  have e_1 : yA.1.cell? ⟨bT, offT + m * 2 + 1, none⟩ = some (.int .i64 e.2) := by exact hcT (m) _ he 1 _ rfl
                  have hbT2 : bT < yA.1.heap.size + 1 := by omega
                  have HTc := Lib.hid hcT
                  have He := Lib.hid he
                  clear he hcT
                  have hei := HRI.out.2 e (List.mem_of_getElem? He.out)
                  have hej := HRI.out.1.1 e (List.mem_of_getElem? He.out)
                  have hbT3 : bT < yA.1.heap.size + 1 + 1 := by omega
                  have hwe1 : IntKind.i64.wrap (e.1 - k) = e.1 - k := IntWalk.i64_in _ (by omega)
                  have hwe2 : IntKind.i64.wrap (e.2 + k) = e.2 + k := IntWalk.i64_in _ (by omega)
                  have hlm : (rawG (wdS k Y) rows j ++ (r.2.take m).map (gr k)).length ≤ 100000000 := by
                    rw [List.length_append, List.length_map]
                    have := List.length_take_le m r.2
                    omega
                  go_wp2_with (at_builtin; refine wpList_app _ rfl _ _ 45 rfl encRun_len (by decide) oneR y6.1.heap.size 61 (.agg #[.int .i64 0, .int .i64 0]) 16 infoRun rfl Try.underlying45 _ _ _ _ rfl ((HM.out.own.alloc _).alloc _) _ _ _ rfl (rd_one _ encRun_len _ (e.1 - k, e.2 + k) _ rfl) ?c1 (by decide) ?c2 ?_; (case c1 => (first | (simp only [List.length_append, List.length_cons, List.length_nil]; omega) | omega | (simp; omega))); (case c2 => exact (by repeat (first | with_reducible exact Nat.le_refl _ | assumption | with_reducible refine le_alloc ?_ _ | with_reducible refine le_drew ?_ | with_reducible refine Kin.le _ ?_ | assumption | omega | (simp only [World.size_alloc]; omega)))); intro v' w1 hown' hg hbel hat'; (obtain ⟨y, rfl⟩ : ∃ y : Kin y6.1, y.1 = w1 := ⟨⟨w1, Below.trans (by repeat (first | with_reducible (first | exact blA | exact blB | refine blC _ ?_ | refine blD ?_ ?_ _ | refine blE ?_ | refine blF _ ?_ | refine blG ?_ _ | refine blH ?_ | refine blI ?_ ?_ _) | (simp only [World.size_alloc]; omega) | (simp <;> omega))) hbel⟩, rfl⟩); clear hbel hg hat')
                  go_roundw
                  case rel => exact ⟨m + 1, by omega, by go_num, Lib.hid (by rw [gr_snoc He.out, ← List.append_assoc]; exact hown'), y, rfl⟩
                  case measure => simp [intOf]; omega
                · have em : m = r.2.length := by omega
                  have hM2 := HM.out
                  rw [em, List.take_length, show rawG (wdS k Y) rows j ++ r.2.map (gr k) = rawG (wdS k Y) rows (j + 1) from by rw [rawG_yes Hr.out (by rw [HWD.out]; omega), HWD.out]] at hM2
                  have HM2 := Lib.hid hM2
                  clear hM2
                  clear em
                  go_wp2
                  go_roundw
                  case rel => exact ⟨j + 1, by omega, by go_num, HM2, z8, rfl⟩
                  case measure => simp [intOf]; omega
        · have ej : j = rows.length := by omega
          have hraw := rawG_len (wd := wdS k Y) HVR.out j
          have HN := Lib.hid (show normR (rawG (wdS k Y) rows j) = dilW rows k Y from by rw [ej]; exact raw_dil HVR.out k0 k1 Y)
          have HRL := Lib.hid (Rd.own encRun_len HL.out.own)
          have p0 : y6.1.cell? ⟨z.1.heap.size + 1 + 1, 0, none⟩ = some (.slice AS nS cS) := HP6.out.cell 0
          have pl := HP6.out.lt
          clear ej HL
          go_wp2_with (first
            | (go_at_call 48; (with_reducible refine (Kin.callK (W := (Kin.wd y6)) (by repeat (first | with_reducible (first | exact blA | exact blB | refine blC _ ?_ | refine blD ?_ ?_ _ | refine blE ?_ | refine blF _ ?_ | refine blG ?_ _ | refine blH ?_ | refine blI ?_ ?_ _) | (simp only [World.size_alloc]; omega) | (simp <;> omega))) (normR_own _ (rawG (wdS k Y) rows j) _ (HRL.out.below (by repeat (first | with_reducible (first | exact blA | exact blB | refine blC _ ?_ | refine blD ?_ ?_ _ | refine blE ?_ | refine blF _ ?_ | refine blG ?_ _ | refine blH ?_ | refine blI ?_ ?_ _) | (simp only [World.size_alloc]; omega) | (simp <;> omega)))) (by omega))).mono ?_); rintro e w' ⟨zn, ⟨u, B, rfl, hB1, hu⟩, hzn, rfl⟩; (rw [HN.out] at hu; have hrd := Rd.own encRun_len hu; (obtain ⟨L, capL, rfl, hcapL, _⟩ := hrd.open_); have HUW := Lib.hid hu; have HRC := Lib.hid hrd; have hbz : (Kin.wd yA).heap.size + 1 ≤ (Kin.wd zn).heap.size := Nat.le_trans (Nat.succ_le_of_lt (Nat.lt_of_le_of_lt hsz1 pl)) zn.2.size; clear hu hrd))
            | (at_builtin; refine wpList_app _ rfl _ _ 22 rfl encRow_len (by decide) oneRow (yA.1.heap.size + 1) 47 (.agg #[.int .i64 0, .slice none 0 0]) 32 infoRow rfl Try.underlying22 _ _ _ _ rfl ((own_below HOW.out zn.2).alloc _) _ _ _ rfl (rd_one _ encRow_len _ (hd Y L (dilW rows k Y).length capL) _ rfl) ?c1 (by decide) ?c2 ?_; (case c1 => (first | (simp only [List.length_append, List.length_cons, List.length_nil]; omega) | omega | (simp; omega))); (case c2 => exact (by repeat (first | with_reducible exact Nat.le_refl _ | assumption | with_reducible refine le_alloc ?_ _ | with_reducible refine le_drew ?_ | with_reducible refine Kin.le _ ?_ | assumption | omega | (simp only [World.size_alloc]; omega)))); intro v' w1 hown' hg hbel hat'; ((obtain ⟨AV, nV, cV, rfl⟩ := own_slice hown'); have hPn : Blk (zn.1.alloc (.cells #[.int .i64 Y, .slice L (dilW rows k Y).length capL] 47)) (z.1.heap.size + 1 + 1) 24 #[.slice AS nS cS] := (HP6.out.below zn.2).below (Below.alloc (Below.refl _ _) (Nat.le_refl _) _); have HP1 := Lib.hid (hPn.grown hg (Ne.symm (own_ne ((own_below HOW.out zn.2).alloc _) hPn (by decide)))); have p1 : w1.cell? ⟨z.1.heap.size + 1 + 1, 0, none⟩ = some (.slice AS nS cS) := HP1.out.cell 0; have pf1 : w1.frozen? ⟨z.1.heap.size + 1 + 1, 0, none⟩ = false := HP1.out.frozen 0; have pl1 := HP1.out.lt; have HFR := own_new HUW.out hB1 (v2 := .slice AS nS cS) (fun q e => Nat.lt_of_lt_of_le (HOW.out.lt q e).2 (by first | exact Nat.le_refl _ | exact Kin.le _ (Nat.le_refl _) | exact z7.2.size)); have HPU := Lib.hid (OwnRows.push ((own_below HOW.out zn.2).alloc _) (HNE.out.below (by repeat (first | with_reducible (first | exact blA | exact blB | refine blC _ ?_ | refine blD ?_ ?_ _ | refine blE ?_ | refine blF _ ?_ | refine blG ?_ _ | refine blH ?_ | refine blI ?_ ?_ _) | (simp only [World.size_alloc]; omega) | (simp <;> omega)))) HAP.out hown' hg hat' (HRC.out.below (by repeat (first | with_reducible (first | exact blA | exact blB | refine blC _ ?_ | refine blD ?_ ?_ _ | refine blE ?_ | refine blF _ ?_ | refine blG ?_ _ | refine blH ?_ | refine blI ?_ ?_ _) | (simp only [World.size_alloc]; omega) | (simp <;> omega)))) (HFR.imp (fun h => List.eq_nil_of_length_eq_zero h) id) hPn); have HBE := Lib.hid hbel; clear hown' hg hbel hat' HFR)))
          · have hne : (dilW rows k Y).isEmpty = false := by
              rw [List.isEmpty_eq_false_iff]; intro e; have : (dilW rows k Y).length = 0 := (by rw [e]; rfl); omega
            have hb5 : Below yA.1.heap.size yA.1 w1 := (Below.alloc (y6.2.trans (zn.2.mono y6.2.size)) (Nat.le_of_succ_le hbz) _).trans (HBE.out.mono (Nat.le_succ _))
            go_roundw
            case rel => exact ⟨n + 1, by have := HY.out; omega, by rw [show ly - k + ((n + 1 : Nat) : Int) = Y + 1 by have := HY.out; omega], _, Lib.hid (by rw [upFrom_succ, rowsOn_snoc, HY.out, hne]; exact HPU.out.1), Lib.hid HPU.out.2, Lib.hid (Below.setCell hb5 hsz1 _)⟩
            case measure => simp [intOf]; omega
          · rename_i h0
            have hne : (dilW rows k Y).isEmpty = true := by
              rw [List.isEmpty_iff]; exact List.eq_nil_of_length_eq_zero (by omega)
            go_roundw
            case rel => exact ⟨n + 1, by have := HY.out; omega, by rw [show ly - k + ((n + 1 : Nat) : Int) = Y + 1 by have := HY.out; omega], _, Lib.hid (by rw [upFrom_succ, rowsOn_snoc, HY.out, hne]; simpa using HO.out.below zn.2), Lib.hid (HP6.out.below zn.2), Lib.hid (y6.2.trans (zn.2.mono y6.2.size))⟩
            case measure => simp [intOf]; omega
    · have en : n = (hy + k + 1 - (ly - k)).toNat := by omega
      obtain ⟨hs, hown, _⟩ := HO.out
      obtain ⟨AS, nS, cS, rfl⟩ := own_slice hown
      have p0 : y6.1.cell? ⟨z.1.heap.size + 1 + 1, 0, none⟩ = some (.slice AS nS cS) := HP6.out.cell 0
      have pl := HP6.out.lt
      have B36 := Lib.hid (HBy.out.below y6.2)
      have q0 : y6.1.cell? ⟨w.heap.size + 1, 0, none⟩ = some (.slice none 0 0) := B36.out.cell 0
      have qf : y6.1.frozen? ⟨w.heap.size + 1, 0, none⟩ = false := B36.out.frozen 0
      have ql := B36.out.lt
      have HEN := Lib.hid en
      clear hown en
      go_wp2
      ((try simp only [Exit.inBlock, Exit.then]); refine bodyPost_ret (results_cell_t rfl _ _ (0, 0) rfl (B36.out.set_ 0 _) Try.underlying24 rfl (by kernel_rfl)) rfl ?_)
      refine ⟨⟨_, _, _, rfl, ?_⟩, (by repeat (first | with_reducible (first | exact blA | exact blB | refine blC _ ?_ | refine blD ?_ ?_ _ | refine blE ?_ | refine blF _ ?_ | refine blG ?_ _ | refine blH ?_ | refine blI ?_ ?_ _) | (simp only [World.size_alloc]; omega) | (simp <;> omega)))⟩
      rw [HD.out, ← HEN.out]
      exact (HO.out.set_ (i := 0) (u := .slice AS nS cS) B36.out (by decide)).reg
theorem rdil_any (v : Value) (rows : List Reg.Row) (k : Int) (w : World) (h : RdReg w v rows) (hbd : RBd rows) :
    Calls Try.prog 17 #[v, .int .i64 k] w fun e w' => (∃ A n c, e = .returned (.tuple #[.agg #[.slice A n c], .int .i64 (dilE rows k)]) ∧ RdReg w' (.agg #[.slice A n c]) (dilR rows k)) ∧ Below w.heap.size w w' := by
  by_cases h1 : (reachOk k && rvalid rows) = true
  · by_cases hn : rows = []
    · exact rdil_none v rows k w h hbd (.inr ⟨h1, hn⟩)
    · rcases dilE_two h1 with h2 | h2
      · exact rdil_go v rows k w h hbd hn h2
      · exact rdil_far v rows k w h hbd hn h2
  · exact rdil_none v rows k w h hbd (.inl (by simpa using h1))
theorem rdil_is {E : Int} (v : Value) (rows : List Reg.Row) (k : Int) (w : World) (h : RdReg w v rows) (hbd : RBd rows) (hE : dilE rows k = E) :
    Calls Try.prog 17 #[v, .int .i64 k] w fun e w' => (∃ A n c, e = .returned (.tuple #[.agg #[.slice A n c], .int .i64 E]) ∧ RdReg w' (.agg #[.slice A n c]) (dilR rows k)) ∧ Below w.heap.size w w' := by
  subst hE; exact rdil_any v rows k w h hbd
end Go.Proofs.Ytjppaknajdbkgaa

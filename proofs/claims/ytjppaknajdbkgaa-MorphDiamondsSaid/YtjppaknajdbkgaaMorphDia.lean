/- Rows joined by diamonds. -/
import Derived.Test.YtjppaknajdbkgaaMorphEro
namespace Go.Proofs.Ytjppaknajdbkgaa
set_option linter.unusedSimpArgs false
set_option linter.unusedVariables false
open Go.RowKit Runs Reg
attribute [local go_sem] Kin.cell Kin.frozen Kin.lt0 Kin.lt1 Kin.lt2 Kin.lt3 run_mkf run_mkmap run_storeF
set_option maxRecDepth 100000 in
theorem grown_any (v : Value) (l : List Run) (k : Int) (w : World) (h : Rd 2 encRun w v l) (hlen : l.length ≤ 68719476736) :
    Calls Try.prog 57 #[v, .int .i64 k] w fun e w' => (∃ u, e = .returned u ∧ Rd 2 encRun w' u (growL l k)) ∧ Below w.heap.size w w' := by
  have H := Lib.hid h
  obtain ⟨A, capA, rfl, _, _⟩ := h.open_
  clear h
  go_enter Try.func57, Try.ntmps57
  go_wp2_with (go_at_call 44; (with_reducible refine (Kin.callK (W := w) (by repeat (first | with_reducible (first | exact blA | exact blB | refine blC _ ?_ | refine blD ?_ ?_ _ | refine blE ?_ | refine blF _ ?_ | refine blG ?_ _ | refine blH ?_ | refine blI ?_ ?_ _) | (simp only [World.size_alloc]; omega) | (simp <;> omega))) (grow_any _ l k _ (H.out.below (by repeat (first | with_reducible (first | exact blA | exact blB | refine blC _ ?_ | refine blD ?_ ?_ _ | refine blE ?_ | refine blF _ ?_ | refine blG ?_ _ | refine blH ?_ | refine blI ?_ ?_ _) | (simp only [World.size_alloc]; omega) | (simp <;> omega)))) hlen)).mono ?_); rintro e w' ⟨z, ⟨u, rfl, hu⟩, hz, rfl⟩; (have HU := Lib.hid hu; clear hu))
  go_ret
  exact ⟨⟨_, rfl, HU.out⟩, (by repeat (first | with_reducible (first | exact blA | exact blB | refine blC _ ?_ | refine blD ?_ ?_ _ | refine blE ?_ | refine blF _ ?_ | refine blG ?_ _ | refine blH ?_ | refine blI ?_ ?_ _) | (simp only [World.size_alloc]; omega) | (simp <;> omega)))⟩
set_option maxRecDepth 100000 in
set_option maxHeartbeats 16000000 in
theorem diaU_any (b n : Nat) (f : Int → Value) (g : Int → List Run) (y k : Int) (w : World) (h : MapF w b n f) (hg : ∀ j, Rd 2 encRun w (f j) (g j)) (hk : 0 ≤ k ∧ k ≤ 64) (hy : -10000 ≤ y ∧ y ≤ 10000)
    (hl : ∀ m, (diaTo 2 growL g y k m).length ≤ 16384) (hl1 : ∀ m : Nat, (setop (opf 2) (diaTo 2 growL g y k m) (growL (g (y - ((m : Int) + 1))) (k - ((m : Int) + 1)))).length ≤ 16384) (hcl : ∀ j k', (growL (g j) k').length ≤ 16384) (hgl : ∀ j, (g j).length ≤ 16384) :
    Calls Try.prog 56 #[.agg #[.map (some b), .func (.func 43) #[] #[]], .int .i64 y, .int .i64 k, .func (.func 57) #[] #[]] w fun e w' => (∃ u, e = .returned u ∧ Rd 2 encRun w' u (diaTo 2 growL g y k k.toNat)) ∧ Below w.heap.size w w' := by
  have H := Lib.hid h
  have HG := Lib.hid hg
  have HL := Lib.hid hl
  have HL1 := Lib.hid hl1
  have HCL := Lib.hid hcl
  have HGL := Lib.hid hgl
  obtain ⟨hk1, hk2⟩ := hk
  obtain ⟨hy1, hy2⟩ := hy
  have hl0 := (MapF.below h (Below.alloc (Below.refl _ _) (Nat.le_refl _) (.cells #[.map (some b), .func (.func 43) #[] #[]] 55))).lookup (y := y) (i64_wf (by omega)) (zero_runs _)
  clear h hg hl hl1 hcl hgl
  go_enter Try.func56, Try.ntmps56
  have l0 := HGL.out y
  go_wp2_with (go_at_call 57; (with_reducible refine (Kin.callK (W := (w.alloc (.cells #[.map (some b), .func (.func 43) #[] #[]] 55))) (by repeat (first | with_reducible (first | exact blA | exact blB | refine blC _ ?_ | refine blD ?_ ?_ _ | refine blE ?_ | refine blF _ ?_ | refine blG ?_ _ | refine blH ?_ | refine blI ?_ ?_ _) | (simp only [World.size_alloc]; omega) | (simp <;> omega))) (grown_any (f y) (g y) k _ ((HG.out _).below (by repeat (first | with_reducible (first | exact blA | exact blB | refine blC _ ?_ | refine blD ?_ ?_ _ | refine blE ?_ | refine blF _ ?_ | refine blG ?_ _ | refine blH ?_ | refine blI ?_ ?_ _) | (simp only [World.size_alloc]; omega) | (simp <;> omega)))) (by omega))).mono ?_); rintro e w' ⟨z0, ⟨u0, rfl, hu0⟩, hz0, rfl⟩; (have HU0 := Lib.hid hu0; clear hu0))
  have hbz := z0.2
  go_loopw [9, 10] (fun o i wr => ∃ m : Nat, m ≤ k.toNat ∧ i = .int .i64 ((m : Int) + 1) ∧ Hid (Rd 2 encRun wr o (diaTo 2 growL g y k m)) ∧ ∃ z : Kin (w.alloc (.cells #[.map (some b), .func (.func 43) #[] #[]] 55)), z.1 = wr) (fun _ i _ => (k + 1 - intOf i).toNat)
  case atStart => exact ⟨0, Nat.zero_le _, by simp, HU0, z0, rfl⟩
  case round =>
    clear HU0
    obtain ⟨m, hm, rfl, HO, z, rfl⟩ := hrel
    by_cases hlt : (m : Int) + 1 ≤ k
    · have hb : Below w.heap.size w z.1 := (by repeat (first | with_reducible (first | exact blA | exact blB | refine blC _ ?_ | refine blD ?_ ?_ _ | refine blE ?_ | refine blF _ ?_ | refine blG ?_ _ | refine blH ?_ | refine blI ?_ ?_ _) | (simp only [World.size_alloc]; omega) | (simp <;> omega)))
      have hwm : IntKind.i64.wrap ((m : Int) + 1 + 1) = (m : Int) + 1 + 1 := IntWalk.i64_in _ (by omega)
      have hw1 : IntKind.i64.wrap (y - ((m : Int) + 1)) = y - ((m : Int) + 1) := IntWalk.i64_in _ (by omega)
      have hw2 : IntKind.i64.wrap (y + ((m : Int) + 1)) = y + ((m : Int) + 1) := IntWalk.i64_in _ (by omega)
      have hw3 : IntKind.i64.wrap (k - ((m : Int) + 1)) = k - ((m : Int) + 1) := IntWalk.i64_in _ (by omega)
      have HLK1 := Lib.hid (fun (x : World) (hx : Below w.heap.size w x) => (MapF.below H.out hx).lookup (y := y - ((m : Int) + 1)) (i64_wf (by omega)) (zero_runs _))
      have HLK2 := Lib.hid (fun (x : World) (hx : Below w.heap.size w x) => (MapF.below H.out hx).lookup (y := y + ((m : Int) + 1)) (i64_wf (by omega)) (zero_runs _))
      have q0 : z.1.cell? ⟨w.heap.size, 0, none⟩ = some (.map (some b)) := (z.cell (by simp)).trans (by simp)
      have q1 : z.1.cell? ⟨w.heap.size, 1, none⟩ = some (.func (.func 43) #[] #[]) := (z.cell (by simp)).trans (by simp)
      have ql : w.heap.size < z.1.heap.size := z.lt0 (by simp)
      have q0d : z.1.drew.cell? ⟨w.heap.size, 0, none⟩ = some (.map (some b)) := q0
      have q1d : z.1.drew.cell? ⟨w.heap.size, 1, none⟩ = some (.func (.func 43) #[] #[]) := q1
      have hlk := HLK1.out z.1.drew (Below.drew hb)
      have l1 := HGL.out (y - ((m : Int) + 1))
      have l2 := HL.out m
      have l3 := HCL.out (y - ((m : Int) + 1)) (k - ((m : Int) + 1))
      have l4 := HGL.out (y + ((m : Int) + 1))
      have l5 := HL1.out m
      have l6 := HCL.out (y + ((m : Int) + 1)) (k - ((m : Int) + 1))
      go_wp2
      go_region_held (fun w' => w'.cell? ⟨w.heap.size, 0, none⟩ = some (.map (some b)) ∧ w'.cell? ⟨w.heap.size, 1, none⟩ = some (.func (.func 43) #[] #[]) ∧ (Instr.lookup 52 (.map (some b)) (.int .i64 (y - ((m : Int) + 1))) false).run Try.prog w' = .ok (f (y - ((m : Int) + 1))) w') (refine ⟨?_, ?_, ?_⟩ <;> assumption) (first | (go_at_call 57; (with_reducible refine (Kin.callK (W := (Kin.wd z)) (by repeat (first | with_reducible (first | exact blA | exact blB | refine blC _ ?_ | refine blD ?_ ?_ _ | refine blE ?_ | refine blF _ ?_ | refine blG ?_ _ | refine blH ?_ | refine blI ?_ ?_ _) | (simp only [World.size_alloc]; omega) | (simp <;> omega))) (grown_any (f (y - ((m : Int) + 1))) (g (y - ((m : Int) + 1))) (k - ((m : Int) + 1)) _ ((HG.out _).below (by repeat (first | with_reducible (first | exact blA | exact blB | refine blC _ ?_ | refine blD ?_ ?_ _ | refine blE ?_ | refine blF _ ?_ | refine blG ?_ _ | refine blH ?_ | refine blI ?_ ?_ _) | (simp only [World.size_alloc]; omega) | (simp <;> omega)))) (by omega))).mono ?_); rintro e w' ⟨z1, ⟨ua, rfl, ha⟩, hza, rfl⟩; (have HA := Lib.hid ha; have s0 : (Kin.wd z1).cell? ⟨w.heap.size, 0, none⟩ = some (.map (some b)) := (z1.cell ql).trans q0; have s1 : (Kin.wd z1).cell? ⟨w.heap.size, 1, none⟩ = some (.func (.func 43) #[] #[]) := (z1.cell ql).trans q1; have s2 := HLK1.out (Kin.wd z1) (hb.trans (z1.2.mono hb.size)); clear ha)) | (go_at_call 43; (with_reducible refine (Kin.callK (W := (Kin.wd z)) (by repeat (first | with_reducible (first | exact blA | exact blB | refine blC _ ?_ | refine blD ?_ ?_ _ | refine blE ?_ | refine blF _ ?_ | refine blG ?_ _ | refine blH ?_ | refine blI ?_ ?_ _) | (simp only [World.size_alloc]; omega) | (simp <;> omega))) (union_any _ _ (diaTo 2 growL g y k m) (growL (g (y - ((m : Int) + 1))) (k - ((m : Int) + 1))) _ (HO.out.below (by repeat (first | with_reducible (first | exact blA | exact blB | refine blC _ ?_ | refine blD ?_ ?_ _ | refine blE ?_ | refine blF _ ?_ | refine blG ?_ _ | refine blH ?_ | refine blI ?_ ?_ _) | (simp only [World.size_alloc]; omega) | (simp <;> omega)))) (HA.out.below (by repeat (first | with_reducible (first | exact blA | exact blB | refine blC _ ?_ | refine blD ?_ ?_ _ | refine blE ?_ | refine blF _ ?_ | refine blG ?_ _ | refine blH ?_ | refine blI ?_ ?_ _) | (simp only [World.size_alloc]; omega) | (simp <;> omega)))) (by omega) (by omega))).mono ?_); rintro e w' ⟨z2, ⟨ub, rfl, hb9⟩, hzb, rfl⟩; (have HU2 := Lib.hid hb9; have t0 : (Kin.wd z2).cell? ⟨w.heap.size, 0, none⟩ = some (.map (some b)) := (z2.cell ql).trans q0; have t1 : (Kin.wd z2).cell? ⟨w.heap.size, 1, none⟩ = some (.func (.func 43) #[] #[]) := (z2.cell ql).trans q1; have t2 := HLK1.out (Kin.wd z2) (hb.trans (z2.2.mono hb.size)); clear hb9)))
      all_goals
        go_wp2
        have p0d : z2.1.drew.cell? ⟨w.heap.size, 0, none⟩ = some (.map (some b)) := (z2.cell ql).trans q0
        have p1d : z2.1.drew.cell? ⟨w.heap.size, 1, none⟩ = some (.func (.func 43) #[] #[]) := (z2.cell ql).trans q1
        have p0 : z2.1.cell? ⟨w.heap.size, 0, none⟩ = some (.map (some b)) := (z2.cell ql).trans q0
        have p1 : z2.1.cell? ⟨w.heap.size, 1, none⟩ = some (.func (.func 43) #[] #[]) := (z2.cell ql).trans q1
        have pl := z2.lt0 ql
        have hb2 : Below w.heap.size w z2.1 := hb.trans (z2.2.mono hb.size)
        have hlk2 := HLK2.out z2.1.drew (Below.drew hb2)
        go_region_held (fun w' => w'.cell? ⟨w.heap.size, 0, none⟩ = some (.map (some b)) ∧ w'.cell? ⟨w.heap.size, 1, none⟩ = some (.func (.func 43) #[] #[]) ∧ (Instr.lookup 52 (.map (some b)) (.int .i64 (y + ((m : Int) + 1))) false).run Try.prog w' = .ok (f (y + ((m : Int) + 1))) w') (refine ⟨?_, ?_, ?_⟩ <;> assumption) (first | (go_at_call 57; (with_reducible refine (Kin.callK (W := (Kin.wd z2)) (by repeat (first | with_reducible (first | exact blA | exact blB | refine blC _ ?_ | refine blD ?_ ?_ _ | refine blE ?_ | refine blF _ ?_ | refine blG ?_ _ | refine blH ?_ | refine blI ?_ ?_ _) | (simp only [World.size_alloc]; omega) | (simp <;> omega))) (grown_any (f (y + ((m : Int) + 1))) (g (y + ((m : Int) + 1))) (k - ((m : Int) + 1)) _ ((HG.out _).below (by repeat (first | with_reducible (first | exact blA | exact blB | refine blC _ ?_ | refine blD ?_ ?_ _ | refine blE ?_ | refine blF _ ?_ | refine blG ?_ _ | refine blH ?_ | refine blI ?_ ?_ _) | (simp only [World.size_alloc]; omega) | (simp <;> omega)))) (by omega))).mono ?_); rintro e w' ⟨z3, ⟨ua, rfl, ha⟩, hza, rfl⟩; (have HA := Lib.hid ha; have s0 : (Kin.wd z3).cell? ⟨w.heap.size, 0, none⟩ = some (.map (some b)) := (z3.cell pl).trans p0; have s1 : (Kin.wd z3).cell? ⟨w.heap.size, 1, none⟩ = some (.func (.func 43) #[] #[]) := (z3.cell pl).trans p1; have s2 := HLK2.out (Kin.wd z3) (hb2.trans (z3.2.mono hb2.size)); clear ha)) | (go_at_call 43; (with_reducible refine (Kin.callK (W := (Kin.wd z2)) (by repeat (first | with_reducible (first | exact blA | exact blB | refine blC _ ?_ | refine blD ?_ ?_ _ | refine blE ?_ | refine blF _ ?_ | refine blG ?_ _ | refine blH ?_ | refine blI ?_ ?_ _) | (simp only [World.size_alloc]; omega) | (simp <;> omega))) (union_any _ _ (setop (opf 2) (diaTo 2 growL g y k m) (growL (g (y - ((m : Int) + 1))) (k - ((m : Int) + 1)))) (growL (g (y + ((m : Int) + 1))) (k - ((m : Int) + 1))) _ (HU2.out.below (by repeat (first | with_reducible (first | exact blA | exact blB | refine blC _ ?_ | refine blD ?_ ?_ _ | refine blE ?_ | refine blF _ ?_ | refine blG ?_ _ | refine blH ?_ | refine blI ?_ ?_ _) | (simp only [World.size_alloc]; omega) | (simp <;> omega)))) (HA.out.below (by repeat (first | with_reducible (first | exact blA | exact blB | refine blC _ ?_ | refine blD ?_ ?_ _ | refine blE ?_ | refine blF _ ?_ | refine blG ?_ _ | refine blH ?_ | refine blI ?_ ?_ _) | (simp only [World.size_alloc]; omega) | (simp <;> omega)))) (by omega) (by omega))).mono ?_); rintro e w' ⟨z4, ⟨ub, rfl, hb9⟩, hzb, rfl⟩; (have HU4 := Lib.hid hb9; have t0 : (Kin.wd z4).cell? ⟨w.heap.size, 0, none⟩ = some (.map (some b)) := (z4.cell pl).trans p0; have t1 : (Kin.wd z4).cell? ⟨w.heap.size, 1, none⟩ = some (.func (.func 43) #[] #[]) := (z4.cell pl).trans p1; have t2 := HLK2.out (Kin.wd z4) (hb2.trans (z4.2.mono hb2.size)); clear hb9)))
        all_goals
          go_wp2
          go_roundw
          case rel => exact ⟨m + 1, by omega, by go_num, HU4, ⟨z4.1, (z.2.trans (z2.2.mono z.2.size)).trans (z4.2.mono (z.2.trans (z2.2.mono z.2.size)).size)⟩, rfl⟩
          case measure => simp [intOf]; omega
    · have em : m = k.toNat := by omega
      have HE := Lib.hid (show diaTo 2 growL g y k k.toNat = diaTo 2 growL g y k m from by rw [em])
      clear em
      go_wp2
      go_ret
      exact ⟨⟨_, rfl, by rw [HE.out]; exact HO.out⟩, (by repeat (first | with_reducible (first | exact blA | exact blB | refine blC _ ?_ | refine blD ?_ ?_ _ | refine blE ?_ | refine blF _ ?_ | refine blG ?_ _ | refine blH ?_ | refine blI ?_ ?_ _) | (simp only [World.size_alloc]; omega) | (simp <;> omega)))⟩
set_option maxRecDepth 100000 in
set_option maxHeartbeats 16000000 in
theorem diaI_any (b n : Nat) (f : Int → Value) (g : Int → List Run) (y k : Int) (w : World) (h : MapF w b n f) (hg : ∀ j, Rd 2 encRun w (f j) (g j)) (hk : 0 ≤ k ∧ k ≤ 64) (hy : -10000 ≤ y ∧ y ≤ 10000)
    (hl : ∀ m, (diaTo 1 shrinkL g y k m).length ≤ 16384) (hl1 : ∀ m : Nat, (setop (opf 1) (diaTo 1 shrinkL g y k m) (shrinkL (g (y - ((m : Int) + 1))) (k - ((m : Int) + 1)))).length ≤ 16384) (hcl : ∀ j k', (shrinkL (g j) k').length ≤ 16384) (hgl : ∀ j, (g j).length ≤ 16384) :
    Calls Try.prog 56 #[.agg #[.map (some b), .func (.func 49) #[] #[]], .int .i64 y, .int .i64 k, .func (.func 50) #[] #[]] w fun e w' => (∃ u, e = .returned u ∧ Rd 2 encRun w' u (diaTo 1 shrinkL g y k k.toNat)) ∧ Below w.heap.size w w' := by
  have H := Lib.hid h
  have HG := Lib.hid hg
  have HL := Lib.hid hl
  have HL1 := Lib.hid hl1
  have HCL := Lib.hid hcl
  have HGL := Lib.hid hgl
  obtain ⟨hk1, hk2⟩ := hk
  obtain ⟨hy1, hy2⟩ := hy
  have hl0 := (MapF.below h (Below.alloc (Below.refl _ _) (Nat.le_refl _) (.cells #[.map (some b), .func (.func 49) #[] #[]] 55))).lookup (y := y) (i64_wf (by omega)) (zero_runs _)
  clear h hg hl hl1 hcl hgl
  go_enter Try.func56, Try.ntmps56
  have l0 := HGL.out y
  go_wp2_with (go_at_call 50; (with_reducible refine (Kin.callK (W := (w.alloc (.cells #[.map (some b), .func (.func 49) #[] #[]] 55))) (by repeat (first | with_reducible (first | exact blA | exact blB | refine blC _ ?_ | refine blD ?_ ?_ _ | refine blE ?_ | refine blF _ ?_ | refine blG ?_ _ | refine blH ?_ | refine blI ?_ ?_ _) | (simp only [World.size_alloc]; omega) | (simp <;> omega))) (shrink_any (f y) (g y) k _ ((HG.out _).below (by repeat (first | with_reducible (first | exact blA | exact blB | refine blC _ ?_ | refine blD ?_ ?_ _ | refine blE ?_ | refine blF _ ?_ | refine blG ?_ _ | refine blH ?_ | refine blI ?_ ?_ _) | (simp only [World.size_alloc]; omega) | (simp <;> omega)))) (by omega))).mono ?_); rintro e w' ⟨z0, ⟨u0, rfl, hu0⟩, hz0, rfl⟩; (have HU0 := Lib.hid (Rd.own encRun_len hu0); clear hu0))
  have hbz := z0.2
  go_loopw [9, 10] (fun o i wr => ∃ m : Nat, m ≤ k.toNat ∧ i = .int .i64 ((m : Int) + 1) ∧ Hid (Rd 2 encRun wr o (diaTo 1 shrinkL g y k m)) ∧ ∃ z : Kin (w.alloc (.cells #[.map (some b), .func (.func 49) #[] #[]] 55)), z.1 = wr) (fun _ i _ => (k + 1 - intOf i).toNat)
  case atStart => exact ⟨0, Nat.zero_le _, by simp, HU0, z0, rfl⟩
  case round =>
    clear HU0
    obtain ⟨m, hm, rfl, HO, z, rfl⟩ := hrel
    by_cases hlt : (m : Int) + 1 ≤ k
    · have hb : Below w.heap.size w z.1 := (by repeat (first | with_reducible (first | exact blA | exact blB | refine blC _ ?_ | refine blD ?_ ?_ _ | refine blE ?_ | refine blF _ ?_ | refine blG ?_ _ | refine blH ?_ | refine blI ?_ ?_ _) | (simp only [World.size_alloc]; omega) | (simp <;> omega)))
      have hwm : IntKind.i64.wrap ((m : Int) + 1 + 1) = (m : Int) + 1 + 1 := IntWalk.i64_in _ (by omega)
      have hw1 : IntKind.i64.wrap (y - ((m : Int) + 1)) = y - ((m : Int) + 1) := IntWalk.i64_in _ (by omega)
      have hw2 : IntKind.i64.wrap (y + ((m : Int) + 1)) = y + ((m : Int) + 1) := IntWalk.i64_in _ (by omega)
      have hw3 : IntKind.i64.wrap (k - ((m : Int) + 1)) = k - ((m : Int) + 1) := IntWalk.i64_in _ (by omega)
      have HLK1 := Lib.hid (fun (x : World) (hx : Below w.heap.size w x) => (MapF.below H.out hx).lookup (y := y - ((m : Int) + 1)) (i64_wf (by omega)) (zero_runs _))
      have HLK2 := Lib.hid (fun (x : World) (hx : Below w.heap.size w x) => (MapF.below H.out hx).lookup (y := y + ((m : Int) + 1)) (i64_wf (by omega)) (zero_runs _))
      have q0 : z.1.cell? ⟨w.heap.size, 0, none⟩ = some (.map (some b)) := (z.cell (by simp)).trans (by simp)
      have q1 : z.1.cell? ⟨w.heap.size, 1, none⟩ = some (.func (.func 49) #[] #[]) := (z.cell (by simp)).trans (by simp)
      have ql : w.heap.size < z.1.heap.size := z.lt0 (by simp)
      have q0d : z.1.drew.cell? ⟨w.heap.size, 0, none⟩ = some (.map (some b)) := q0
      have q1d : z.1.drew.cell? ⟨w.heap.size, 1, none⟩ = some (.func (.func 49) #[] #[]) := q1
      have hlk := HLK1.out z.1.drew (Below.drew hb)
      have l1 := HGL.out (y - ((m : Int) + 1))
      have l2 := HL.out m
      have l3 := HCL.out (y - ((m : Int) + 1)) (k - ((m : Int) + 1))
      have l4 := HGL.out (y + ((m : Int) + 1))
      have l5 := HL1.out m
      have l6 := HCL.out (y + ((m : Int) + 1)) (k - ((m : Int) + 1))
      go_wp2
      go_region_held (fun w' => w'.cell? ⟨w.heap.size, 0, none⟩ = some (.map (some b)) ∧ w'.cell? ⟨w.heap.size, 1, none⟩ = some (.func (.func 49) #[] #[]) ∧ (Instr.lookup 52 (.map (some b)) (.int .i64 (y - ((m : Int) + 1))) false).run Try.prog w' = .ok (f (y - ((m : Int) + 1))) w') (refine ⟨?_, ?_, ?_⟩ <;> assumption) (first | (go_at_call 50; (with_reducible refine (Kin.callK (W := (Kin.wd z)) (by repeat (first | with_reducible (first | exact blA | exact blB | refine blC _ ?_ | refine blD ?_ ?_ _ | refine blE ?_ | refine blF _ ?_ | refine blG ?_ _ | refine blH ?_ | refine blI ?_ ?_ _) | (simp only [World.size_alloc]; omega) | (simp <;> omega))) (shrink_any (f (y - ((m : Int) + 1))) (g (y - ((m : Int) + 1))) (k - ((m : Int) + 1)) _ ((HG.out _).below (by repeat (first | with_reducible (first | exact blA | exact blB | refine blC _ ?_ | refine blD ?_ ?_ _ | refine blE ?_ | refine blF _ ?_ | refine blG ?_ _ | refine blH ?_ | refine blI ?_ ?_ _) | (simp only [World.size_alloc]; omega) | (simp <;> omega)))) (by omega))).mono ?_); rintro e w' ⟨z1, ⟨ua, rfl, ha⟩, hza, rfl⟩; (have ha := Rd.own encRun_len ha; have HA := Lib.hid ha; have s0 : (Kin.wd z1).cell? ⟨w.heap.size, 0, none⟩ = some (.map (some b)) := (z1.cell ql).trans q0; have s1 : (Kin.wd z1).cell? ⟨w.heap.size, 1, none⟩ = some (.func (.func 49) #[] #[]) := (z1.cell ql).trans q1; have s2 := HLK1.out (Kin.wd z1) (hb.trans (z1.2.mono hb.size)); clear ha)) | (go_at_call 49; (with_reducible refine (Kin.callK (W := (Kin.wd z)) (by repeat (first | with_reducible (first | exact blA | exact blB | refine blC _ ?_ | refine blD ?_ ?_ _ | refine blE ?_ | refine blF _ ?_ | refine blG ?_ _ | refine blH ?_ | refine blI ?_ ?_ _) | (simp only [World.size_alloc]; omega) | (simp <;> omega))) (intersect_any _ _ (diaTo 1 shrinkL g y k m) (shrinkL (g (y - ((m : Int) + 1))) (k - ((m : Int) + 1))) _ (HO.out.below (by repeat (first | with_reducible (first | exact blA | exact blB | refine blC _ ?_ | refine blD ?_ ?_ _ | refine blE ?_ | refine blF _ ?_ | refine blG ?_ _ | refine blH ?_ | refine blI ?_ ?_ _) | (simp only [World.size_alloc]; omega) | (simp <;> omega)))) (HA.out.below (by repeat (first | with_reducible (first | exact blA | exact blB | refine blC _ ?_ | refine blD ?_ ?_ _ | refine blE ?_ | refine blF _ ?_ | refine blG ?_ _ | refine blH ?_ | refine blI ?_ ?_ _) | (simp only [World.size_alloc]; omega) | (simp <;> omega)))) (by omega) (by omega))).mono ?_); rintro e w' ⟨z2, ⟨ub, rfl, hb9⟩, hzb, rfl⟩; (have HU2 := Lib.hid hb9; have t0 : (Kin.wd z2).cell? ⟨w.heap.size, 0, none⟩ = some (.map (some b)) := (z2.cell ql).trans q0; have t1 : (Kin.wd z2).cell? ⟨w.heap.size, 1, none⟩ = some (.func (.func 49) #[] #[]) := (z2.cell ql).trans q1; have t2 := HLK1.out (Kin.wd z2) (hb.trans (z2.2.mono hb.size)); clear hb9)))
      all_goals
        go_wp2
        have p0d : z2.1.drew.cell? ⟨w.heap.size, 0, none⟩ = some (.map (some b)) := (z2.cell ql).trans q0
        have p1d : z2.1.drew.cell? ⟨w.heap.size, 1, none⟩ = some (.func (.func 49) #[] #[]) := (z2.cell ql).trans q1
        have p0 : z2.1.cell? ⟨w.heap.size, 0, none⟩ = some (.map (some b)) := (z2.cell ql).trans q0
        have p1 : z2.1.cell? ⟨w.heap.size, 1, none⟩ = some (.func (.func 49) #[] #[]) := (z2.cell ql).trans q1
        have pl := z2.lt0 ql
        have hb2 : Below w.heap.size w z2.1 := hb.trans (z2.2.mono hb.size)
        have hlk2 := HLK2.out z2.1.drew (Below.drew hb2)
        go_region_held (fun w' => w'.cell? ⟨w.heap.size, 0, none⟩ = some (.map (some b)) ∧ w'.cell? ⟨w.heap.size, 1, none⟩ = some (.func (.func 49) #[] #[]) ∧ (Instr.lookup 52 (.map (some b)) (.int .i64 (y + ((m : Int) + 1))) false).run Try.prog w' = .ok (f (y + ((m : Int) + 1))) w') (refine ⟨?_, ?_, ?_⟩ <;> assumption) (first | (go_at_call 50; (with_reducible refine (Kin.callK (W := (Kin.wd z2)) (by repeat (first | with_reducible (first | exact blA | exact blB | refine blC _ ?_ | refine blD ?_ ?_ _ | refine blE ?_ | refine blF _ ?_ | refine blG ?_ _ | refine blH ?_ | refine blI ?_ ?_ _) | (simp only [World.size_alloc]; omega) | (simp <;> omega))) (shrink_any (f (y + ((m : Int) + 1))) (g (y + ((m : Int) + 1))) (k - ((m : Int) + 1)) _ ((HG.out _).below (by repeat (first | with_reducible (first | exact blA | exact blB | refine blC _ ?_ | refine blD ?_ ?_ _ | refine blE ?_ | refine blF _ ?_ | refine blG ?_ _ | refine blH ?_ | refine blI ?_ ?_ _) | (simp only [World.size_alloc]; omega) | (simp <;> omega)))) (by omega))).mono ?_); rintro e w' ⟨z3, ⟨ua, rfl, ha⟩, hza, rfl⟩; (have ha := Rd.own encRun_len ha; have HA := Lib.hid ha; have s0 : (Kin.wd z3).cell? ⟨w.heap.size, 0, none⟩ = some (.map (some b)) := (z3.cell pl).trans p0; have s1 : (Kin.wd z3).cell? ⟨w.heap.size, 1, none⟩ = some (.func (.func 49) #[] #[]) := (z3.cell pl).trans p1; have s2 := HLK2.out (Kin.wd z3) (hb2.trans (z3.2.mono hb2.size)); clear ha)) | (go_at_call 49; (with_reducible refine (Kin.callK (W := (Kin.wd z2)) (by repeat (first | with_reducible (first | exact blA | exact blB | refine blC _ ?_ | refine blD ?_ ?_ _ | refine blE ?_ | refine blF _ ?_ | refine blG ?_ _ | refine blH ?_ | refine blI ?_ ?_ _) | (simp only [World.size_alloc]; omega) | (simp <;> omega))) (intersect_any _ _ (setop (opf 1) (diaTo 1 shrinkL g y k m) (shrinkL (g (y - ((m : Int) + 1))) (k - ((m : Int) + 1)))) (shrinkL (g (y + ((m : Int) + 1))) (k - ((m : Int) + 1))) _ (HU2.out.below (by repeat (first | with_reducible (first | exact blA | exact blB | refine blC _ ?_ | refine blD ?_ ?_ _ | refine blE ?_ | refine blF _ ?_ | refine blG ?_ _ | refine blH ?_ | refine blI ?_ ?_ _) | (simp only [World.size_alloc]; omega) | (simp <;> omega)))) (HA.out.below (by repeat (first | with_reducible (first | exact blA | exact blB | refine blC _ ?_ | refine blD ?_ ?_ _ | refine blE ?_ | refine blF _ ?_ | refine blG ?_ _ | refine blH ?_ | refine blI ?_ ?_ _) | (simp only [World.size_alloc]; omega) | (simp <;> omega)))) (by omega) (by omega))).mono ?_); rintro e w' ⟨z4, ⟨ub, rfl, hb9⟩, hzb, rfl⟩; (have HU4 := Lib.hid hb9; have t0 : (Kin.wd z4).cell? ⟨w.heap.size, 0, none⟩ = some (.map (some b)) := (z4.cell pl).trans p0; have t1 : (Kin.wd z4).cell? ⟨w.heap.size, 1, none⟩ = some (.func (.func 49) #[] #[]) := (z4.cell pl).trans p1; have t2 := HLK2.out (Kin.wd z4) (hb2.trans (z4.2.mono hb2.size)); clear hb9)))
        all_goals
          go_wp2
          go_roundw
          case rel => exact ⟨m + 1, by omega, by go_num, HU4, ⟨z4.1, (z.2.trans (z2.2.mono z.2.size)).trans (z4.2.mono (z.2.trans (z2.2.mono z.2.size)).size)⟩, rfl⟩
          case measure => simp [intOf]; omega
    · have em : m = k.toNat := by omega
      have HE := Lib.hid (show diaTo 1 shrinkL g y k k.toNat = diaTo 1 shrinkL g y k m from by rw [em])
      clear em
      go_wp2
      go_ret
      exact ⟨⟨_, rfl, by rw [HE.out]; exact HO.out⟩, (by repeat (first | with_reducible (first | exact blA | exact blB | refine blC _ ?_ | refine blD ?_ ?_ _ | refine blE ?_ | refine blF _ ?_ | refine blG ?_ _ | refine blH ?_ | refine blI ?_ ?_ _) | (simp only [World.size_alloc]; omega) | (simp <;> omega)))⟩
end Go.Proofs.Ytjppaknajdbkgaa

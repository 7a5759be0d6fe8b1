/- The chapter's functions on runs return lists of their own memory. -/
import Derived.Test.YtjppaknajdbkgaaRunsRef3
import Derived.Test.YtjppaknajdbkgaaRegKitA
namespace Go.Proofs.Ytjppaknajdbkgaa
set_option linter.unusedSimpArgs false
set_option linter.unusedVariables false
open Go.RowKit Runs
attribute [local go_sem] Kin.cell Kin.frozen Kin.lt0 Kin.lt1 Kin.lt2 Kin.lt3 run_mkf
set_option maxRecDepth 100000 in
set_option maxHeartbeats 4000000 in
theorem normalR_own (v : Value) (l : List Run) (w : World) (h : Rd 2 encRun w v l) (hlen : l.length ≤ 68719476736) :
    Calls Try.prog 75 #[v] w fun e w' => (∃ u B, e = .returned u ∧ w.heap.size ≤ B ∧ w'.ownsRow B 61 2 u (normal l).length ((normal l).flatMap encRun)) ∧ Below w.heap.size w w' := by
  obtain ⟨A, capA, rfl, hcapA, hopA⟩ := h.open_
  have HA := Lib.hid hopA
  have HLA := Lib.hid h
  clear hopA h
  have hbl := bnds_len l
  go_enter Try.func75, Try.ntmps75
  go_wp2_with (go_at_call 98; first | ((with_reducible refine (Kin.call _ (bounds_any _ l _ (HLA.out.below (by repeat (first | with_reducible (first | exact blA | exact blB | refine blC _ ?_ | refine blD ?_ ?_ _ | refine blE ?_ | refine blF _ ?_ | refine blG ?_ _ | refine blH ?_ | refine blI ?_ ?_ _) | (simp only [World.size_alloc]; omega) | (simp <;> omega)))) (by omega))).mono ?_); rintro e w' ⟨z0, ⟨u, rfl, hu⟩, rfl⟩; skip) | ((with_reducible refine (Kin.call0 (bounds_any _ l _ (HLA.out.below (by repeat (first | with_reducible (first | exact blA | exact blB | refine blC _ ?_ | refine blD ?_ ?_ _ | refine blE ?_ | refine blF _ ?_ | refine blG ?_ _ | refine blH ?_ | refine blI ?_ ?_ _) | (simp only [World.size_alloc]; omega) | (simp <;> omega)))) (by omega))).mono ?_); rintro e w' ⟨z0, ⟨u, rfl, hu⟩, rfl⟩; skip))
  obtain ⟨B, capB, rfl, hcapB, hopB⟩ := hu.open_
  have HB := Lib.hid hopB
  have HLB := Lib.hid hu
  clear hopB hu
  go_loopw [4, 5] (fun o i wr => ∃ k : Nat, k ≤ (bnds l).length - 1 ∧ i = .int .i64 k ∧ ∃ y : Kin z0.1, y.1 = wr ∧ wr.ownsRow z0.1.heap.size 61 2 o (swTo (mem l) (bnds l) k).length ((swTo (mem l) (bnds l) k).flatMap encRun)) (fun _ i _ => (bnds l).length - (intOf i).toNat)
  case atStart => exact ⟨0, Nat.zero_le _, rfl, ⟨z0.1, Below.refl _ _⟩, rfl, World.ownsRow_nil _ _ _ _⟩
  case round =>
    obtain ⟨k, hk, rfl, y, rfl, hown⟩ := hrel
    have hE := swTo_len (mem l) (bnds l) k
    have hrdC := Rd.own encRun_len hown
    obtain ⟨C, capC, rfl, hcapC, _⟩ := hrdC.open_
    have HWC := Lib.hid hown
    clear hown hrdC
    by_cases hlt : k + 1 < (bnds l).length
    · obtain ⟨r, hr⟩ : ∃ el_, (bnds l)[k]? = some el_ := ⟨_, List.getElem?_eq_getElem (by first | exact hlt | omega)⟩
      obtain ⟨bB, offB, rfl, hbB, hcB⟩ := HB.out (k) _ hr
      have r_0 : z0.1.cell? ⟨bB, offB + k, none⟩ = some (.int .i64 r) := by have := hcB (k) _ hr 0 _ rfl; simpa using this
      have hbB2 : bB < z0.1.heap.size + 1 := by omega
      have HBc := Lib.hid hcB
      have Hr := Lib.hid hr
      clear hr hcB
      obtain ⟨s, hs⟩ : ∃ el_, (bnds l)[k + 1]? = some el_ := ⟨_, List.getElem?_eq_getElem (by first | exact hlt | omega)⟩
      have s_0 : z0.1.cell? ⟨bB, offB + (k + 1), none⟩ = some (.int .i64 s) := by have := HBc.out (k + 1) _ hs 0 _ rfl; simpa using this
      have Hs := Lib.hid hs
      clear hs
      cases hm : mem l r
      · go_wp2_with (go_at_call 99; (with_reducible refine (Kin.callK (W := (Kin.wd z0)) (by repeat (first | with_reducible (first | exact blA | exact blB | refine blC _ ?_ | refine blD ?_ ?_ _ | refine blE ?_ | refine blF _ ?_ | refine blG ?_ _ | refine blH ?_ | refine blI ?_ ?_ _) | (simp only [World.size_alloc]; omega) | (simp <;> omega))) (in_any _ l r _ (HLA.out.below (by repeat (first | with_reducible (first | exact blA | exact blB | refine blC _ ?_ | refine blD ?_ ?_ _ | refine blE ?_ | refine blF _ ?_ | refine blG ?_ _ | refine blH ?_ | refine blI ?_ ?_ _) | (simp only [World.size_alloc]; omega) | (simp <;> omega)))) (by omega))).mono ?_); rintro e w' ⟨z, rfl, hz, rfl⟩)
        go_roundw
        case rel => exact ⟨k + 1, by omega, by go_num, ⟨_, (by repeat (first | with_reducible (first | exact blA | exact blB | refine blC _ ?_ | refine blD ?_ ?_ _ | refine blE ?_ | refine blF _ ?_ | refine blG ?_ _ | refine blH ?_ | refine blI ?_ ?_ _) | (simp only [World.size_alloc]; omega) | (simp <;> omega)))⟩, rfl, by rw [sw_no Hr.out hm]; exact own_below HWC.out (by repeat (first | exact hz | with_reducible refine Kin.below _ ?_ | with_reducible exact Below.refl _ _))⟩
        case measure => simp [intOf]; omega
      · go_wp2_with (go_at_call 99; (with_reducible refine (Kin.callK (W := (Kin.wd z0)) (by repeat (first | with_reducible (first | exact blA | exact blB | refine blC _ ?_ | refine blD ?_ ?_ _ | refine blE ?_ | refine blF _ ?_ | refine blG ?_ _ | refine blH ?_ | refine blI ?_ ?_ _) | (simp only [World.size_alloc]; omega) | (simp <;> omega))) (in_any _ l r _ (HLA.out.below (by repeat (first | with_reducible (first | exact blA | exact blB | refine blC _ ?_ | refine blD ?_ ?_ _ | refine blE ?_ | refine blF _ ?_ | refine blG ?_ _ | refine blH ?_ | refine blI ?_ ?_ _) | (simp only [World.size_alloc]; omega) | (simp <;> omega)))) (by omega))).mono ?_); rintro e w' ⟨z, rfl, hz, rfl⟩)
        have hlt0 : k < (bnds l).length := by omega
        have hw1 : IntKind.i64.wrap ((k : Int) + 1) = (k : Int) + 1 := IntWalk.i64_in _ (by omega)
        have hw2 : 0 ≤ (k : Int) + 1 := by omega
        have hw3 : ((k : Int) + 1).toNat = k + 1 := by omega
        ((refine wp_region_kin_tail 10 (by kernel_rfl) (by kernel_rfl) ?_); simp only [List.take_succ_cons, List.take_zero, List.drop_succ_cons, List.drop_zero]; (repeat' (first | go_big_quiet_step (fail) | ((refine wpQuiet_guard rfl rfl rfl rfl (fun hg => ?_) (fun hg => ?_)) <;> (fail_if_success (first | guard_hyp hg : true = true | guard_hyp hg : false = false)) <;> (try simp only [decide_eq_true_eq, decide_eq_false_iff_not] at hg) <;> simp only [Act.put, List.setIfInBounds_toArray, List.set_cons_zero, List.set_cons_succ]))); all_goals ((with_reducible refine wpQuiet_nil ?_); rintro _ ⟨zq, rfl⟩))
        clear hw1 hw2 hw3
        go_wp2_with (go_at_call 100; (with_reducible refine (Kin.callB (W := (Kin.wd z0)) (by repeat (first | with_reducible (first | exact blA | exact blB | refine blC _ ?_ | refine blD ?_ ?_ _ | refine blE ?_ | refine blF _ ?_ | refine blG ?_ _ | refine blH ?_ | refine blI ?_ ?_ _) | (simp only [World.size_alloc]; omega) | (simp <;> omega))) (put_any (Kin.wd z0).heap.size _ (swTo (mem l) (bnds l) k) r s _ (own_below HWC.out (by repeat (first | exact hz | with_reducible refine Kin.below _ ?_ | with_reducible exact Below.refl _ _))) (by repeat (first | with_reducible exact Nat.le_refl _ | assumption | with_reducible refine le_alloc ?_ _ | with_reducible refine le_drew ?_ | with_reducible refine Kin.le _ ?_ | assumption | omega | (simp only [World.size_alloc]; omega))) (by omega))).mono ?_); rintro e w' ⟨y2, ⟨u2, rfl, hu2⟩, rfl⟩; skip)
        go_roundw
        case rel => exact ⟨k + 1, by omega, by go_num, y2, rfl, by rw [sw_yes Hr.out Hs.out hm]; exact hu2⟩
        case measure => simp [intOf]; omega
    · go_wp2
      go_ret
      have : k = (bnds l).length - 1 := by omega
      have e : normal l = swTo (mem l) (bnds l) k := by rw [this]; rfl
      rw [e]
      exact ⟨⟨_, _, rfl, z0.2.size, HWC.out⟩, (by repeat (first | with_reducible (first | exact blA | exact blB | refine blC _ ?_ | refine blD ?_ ?_ _ | refine blE ?_ | refine blF _ ?_ | refine blG ?_ _ | refine blH ?_ | refine blI ?_ ?_ _) | (simp only [World.size_alloc]; omega) | (simp <;> omega)))⟩
set_option maxRecDepth 100000 in
set_option maxHeartbeats 4000000 in
theorem normR_own (v : Value) (l : List Run) (w : World) (h : Rd 2 encRun w v l) (hlen : l.length ≤ 68719476736) :
    Calls Try.prog 48 #[v] w fun e w' => (∃ u B, e = .returned (.tuple #[u, .int .i64 (normE l)]) ∧ w.heap.size ≤ B ∧ w'.ownsRow B 61 2 u (normR l).length ((normR l).flatMap encRun)) ∧ Below w.heap.size w w' := by
  obtain ⟨A, capA, rfl, hcapA, hopA⟩ := h.open_
  have HA := Lib.hid hopA
  have HLA := Lib.hid h
  clear hopA h
  go_enter Try.func48, Try.ntmps48
  go_wp2
  go_loopw [4] (fun i wr => ∃ k : Nat, k ≤ l.length ∧ i = .int .i64 k ∧ Hid (normOk (l.take k) = true) ∧ ∃ z : Kin w, z.1 = wr) (fun i _ => l.length - (intOf i).toNat)
  case atStart => exact ⟨0, Nat.zero_le _, rfl, rfl, ⟨w, Below.refl _ _⟩, rfl⟩
  case round =>
    obtain ⟨k, hk, rfl, hm, y0, rfl⟩ := hrel
    by_cases hlt : k < l.length
    · obtain ⟨r, hr⟩ : ∃ el_, (l)[k]? = some el_ := ⟨_, List.getElem?_eq_getElem (by first | exact hlt | omega)⟩
      obtain ⟨bA, offA, rfl, hbA, hcA⟩ := HA.out (k) _ hr
      have r_0 : w.cell? ⟨bA, offA + k * 2, none⟩ = some (.int .i64 r.1) := by exact hcA (k) _ hr 0 _ rfl
      have r_1 : w.cell? ⟨bA, offA + k * 2 + 1, none⟩ = some (.int .i64 r.2) := by exact hcA (k) _ hr 1 _ rfl
      have hbA2 : bA < w.heap.size + 1 := by omega
      have HAc := Lib.hid hcA
      have Hr := Lib.hid hr
      clear hr hcA
      go_wp2
      ((refine wp_region_kin0 (by kernel_rfl) (by kernel_rfl) ?_); (repeat' (first | go_big_quiet_step ((go_at_call 74; exact Kin.quiet _ (ok_any _ _))) | ((refine wpQuiet_guard rfl rfl rfl rfl (fun hg => ?_) (fun hg => ?_)) <;> (fail_if_success (first | guard_hyp hg : true = true | guard_hyp hg : false = false)) <;> (try simp only [decide_eq_true_eq, decide_eq_false_iff_not] at hg) <;> simp only [Act.put, List.setIfInBounds_toArray, List.set_cons_zero, List.set_cons_succ]))); all_goals ((with_reducible refine wpQuiet_nil ?_); rintro _ ⟨zq, rfl⟩))
      all_goals go_wp2
      all_goals first
        | (go_ret2
           have hno : normOk l = false := normOk_no Hr.out (by omega) (by rw [fits_okI]; simp_all)
           exact ⟨⟨.slice none 0 0, w.heap.size, by simp [normE, hno], Nat.le_refl _, by simp only [normR, hno]; exact World.ownsRow_nil _ _ _ _⟩, (by repeat (first | with_reducible (first | exact blA | exact blB | refine blC _ ?_ | refine blD ?_ ?_ _ | refine blE ?_ | refine blF _ ?_ | refine blG ?_ _ | refine blH ?_ | refine blI ?_ ?_ _) | (simp only [World.size_alloc]; omega) | (simp <;> omega)))⟩)
        | (go_roundw
           case rel => exact ⟨k + 1, by omega, by go_num, normOkTo Hr.out hm.out (fun h => by first | (exfalso; omega) | simp_all), ⟨_, (by repeat (first | with_reducible (first | exact blA | exact blB | refine blC _ ?_ | refine blD ?_ ?_ _ | refine blE ?_ | refine blF _ ?_ | refine blG ?_ _ | refine blH ?_ | refine blI ?_ ?_ _) | (simp only [World.size_alloc]; omega) | (simp <;> omega)))⟩, rfl⟩
           case measure => simp [intOf]; omega)
    · have hk4 : k = l.length := by omega
      have hok : normOk l = true := by rw [← hm.out, hk4, List.take_length]
      go_wp2_with (go_at_call 75; first | ((with_reducible refine (Kin.call _ (normalR_own _ l _ (HLA.out.below (by repeat (first | with_reducible (first | exact blA | exact blB | refine blC _ ?_ | refine blD ?_ ?_ _ | refine blE ?_ | refine blF _ ?_ | refine blG ?_ _ | refine blH ?_ | refine blI ?_ ?_ _) | (simp only [World.size_alloc]; omega) | (simp <;> omega)))) (by omega))).mono ?_); rintro e w' ⟨z, ⟨u, B, rfl, hB, hu⟩, rfl⟩; (have HU := Lib.hid hu; clear hu)) | ((with_reducible refine (Kin.call0 (normalR_own _ l _ (HLA.out.below (by repeat (first | with_reducible (first | exact blA | exact blB | refine blC _ ?_ | refine blD ?_ ?_ _ | refine blE ?_ | refine blF _ ?_ | refine blG ?_ _ | refine blH ?_ | refine blI ?_ ?_ _) | (simp only [World.size_alloc]; omega) | (simp <;> omega)))) (by omega))).mono ?_); rintro e w' ⟨z, ⟨u, B, rfl, hB, hu⟩, rfl⟩; (have HU := Lib.hid hu; clear hu)))
      go_ret2
      exact ⟨⟨u, B, by simp [normE, hok], Nat.le_trans y0.2.size hB, by simp only [normR, hok, if_true]; rw [← norm_normal]; exact HU.out⟩, (by repeat (first | with_reducible (first | exact blA | exact blB | refine blC _ ?_ | refine blD ?_ ?_ _ | refine blE ?_ | refine blF _ ?_ | refine blG ?_ _ | refine blH ?_ | refine blI ?_ ?_ _) | (simp only [World.size_alloc]; omega) | (simp <;> omega)))⟩
set_option maxRecDepth 100000 in
set_option maxHeartbeats 8000000 in
theorem chooseR_own (v u : Value) (a b : List Run) (n : Int) (hn : n = 0 ∨ n = 1 ∨ n = 2) (w : World) (h : Rd 2 encRun w v a) (h' : Rd 2 encRun w u b) (hlen : a.length ≤ 17179869184) (hlen' : b.length ≤ 17179869184) :
    Calls Try.prog 78 #[v, u, .int .i64 n] w fun e w' => (∃ u B, e = .returned u ∧ w.heap.size ≤ B ∧ w'.ownsRow B 61 2 u (setop (opf n) a b).length ((setop (opf n) a b).flatMap encRun)) ∧ Below w.heap.size w w' := by
  obtain ⟨A, capA, rfl, hcapA, hopA⟩ := h.open_
  have HA := Lib.hid hopA
  have HLA := Lib.hid h
  clear hopA h
  obtain ⟨B, capB, rfl, hcapB, hopB⟩ := h'.open_
  have HB := Lib.hid hopB
  have HLB := Lib.hid h'
  clear hopB
  by_cases hv : (valid a && valid b) = false
  · cases hva : valid a
    · go_enter Try.func78, Try.ntmps78
      go_wp2_with (go_at_call 77; first | ((with_reducible refine (Kin.call _ (validR_any _ a _ (HLA.out.below (by repeat (first | with_reducible (first | exact blA | exact blB | refine blC _ ?_ | refine blD ?_ ?_ _ | refine blE ?_ | refine blF _ ?_ | refine blG ?_ _ | refine blH ?_ | refine blI ?_ ?_ _) | (simp only [World.size_alloc]; omega) | (simp <;> omega)))) (by omega))).mono ?_); rintro e w' ⟨z, rfl, rfl⟩) | ((with_reducible refine (Kin.call0 (validR_any _ a _ (HLA.out.below (by repeat (first | with_reducible (first | exact blA | exact blB | refine blC _ ?_ | refine blD ?_ ?_ _ | refine blE ?_ | refine blF _ ?_ | refine blG ?_ _ | refine blH ?_ | refine blI ?_ ?_ _) | (simp only [World.size_alloc]; omega) | (simp <;> omega)))) (by omega))).mono ?_); rintro e w' ⟨z, rfl, rfl⟩))
      go_ret
      exact ⟨⟨_, _, rfl, Nat.le_refl _, by simp only [setop, hv]; exact World.ownsRow_nil _ _ _ _⟩, (by repeat (first | with_reducible (first | exact blA | exact blB | refine blC _ ?_ | refine blD ?_ ?_ _ | refine blE ?_ | refine blF _ ?_ | refine blG ?_ _ | refine blH ?_ | refine blI ?_ ?_ _) | (simp only [World.size_alloc]; omega) | (simp <;> omega)))⟩
    · have hvb : valid b = false := by simpa [hva] using hv
      go_enter Try.func78, Try.ntmps78
      go_wp2_with (first | (go_at_call 77; first | ((with_reducible refine (Kin.call _ (validR_any _ a _ (HLA.out.below (by repeat (first | with_reducible (first | exact blA | exact blB | refine blC _ ?_ | refine blD ?_ ?_ _ | refine blE ?_ | refine blF _ ?_ | refine blG ?_ _ | refine blH ?_ | refine blI ?_ ?_ _) | (simp only [World.size_alloc]; omega) | (simp <;> omega)))) (by omega))).mono ?_); rintro e w' ⟨z, rfl, rfl⟩) | ((with_reducible refine (Kin.call0 (validR_any _ a _ (HLA.out.below (by repeat (first | with_reducible (first | exact blA | exact blB | refine blC _ ?_ | refine blD ?_ ?_ _ | refine blE ?_ | refine blF _ ?_ | refine blG ?_ _ | refine blH ?_ | refine blI ?_ ?_ _) | (simp only [World.size_alloc]; omega) | (simp <;> omega)))) (by omega))).mono ?_); rintro e w' ⟨z, rfl, rfl⟩)) | (go_at_call 77; first | ((with_reducible refine (Kin.call _ (validR_any _ b _ (HLB.out.below (by repeat (first | with_reducible (first | exact blA | exact blB | refine blC _ ?_ | refine blD ?_ ?_ _ | refine blE ?_ | refine blF _ ?_ | refine blG ?_ _ | refine blH ?_ | refine blI ?_ ?_ _) | (simp only [World.size_alloc]; omega) | (simp <;> omega)))) (by omega))).mono ?_); rintro e w' ⟨z, rfl, rfl⟩) | ((with_reducible refine (Kin.call0 (validR_any _ b _ (HLB.out.below (by repeat (first | with_reducible (first | exact blA | exact blB | refine blC _ ?_ | refine blD ?_ ?_ _ | refine blE ?_ | refine blF _ ?_ | refine blG ?_ _ | refine blH ?_ | refine blI ?_ ?_ _) | (simp only [World.size_alloc]; omega) | (simp <;> omega)))) (by omega))).mono ?_); rintro e w' ⟨z, rfl, rfl⟩)))
      go_ret
      exact ⟨⟨_, _, rfl, Nat.le_refl _, by simp only [setop, hv]; exact World.ownsRow_nil _ _ _ _⟩, (by repeat (first | with_reducible (first | exact blA | exact blB | refine blC _ ?_ | refine blD ?_ ?_ _ | refine blE ?_ | refine blF _ ?_ | refine blG ?_ _ | refine blH ?_ | refine blI ?_ ?_ _) | (simp only [World.size_alloc]; omega) | (simp <;> omega)))⟩
  · have hva : valid a = true := by simp at hv; exact hv.1
    have hvb : valid b = true := by simp at hv; exact hv.2
    have hse : setop (opf n) a b = Runs.choose (opf n) a b := by simp [setop, hva, hvb]
    rw [hse]
    clear hse hv
    have hbl := bnds_len (a ++ b)
    rw [List.length_append] at hbl
    have hP : ∃ P : Int → Bool, P = fun x => opf n (mem a x) (mem b x) := ⟨_, rfl⟩
    obtain ⟨P, hP⟩ := hP
    have hc : Runs.choose (opf n) a b = swTo P (bnds (a ++ b)) ((bnds (a ++ b)).length - 1) := by rw [hP]; rfl
    rw [hc]
    clear hc
    have HP := Lib.hid hP
    clear hP
    go_enter Try.func78, Try.ntmps78
    go_wp2_with (first
      | (go_at_call 77; first | ((with_reducible refine (Kin.call _ (validR_any _ a _ (HLA.out.below (by repeat (first | with_reducible (first | exact blA | exact blB | refine blC _ ?_ | refine blD ?_ ?_ _ | refine blE ?_ | refine blF _ ?_ | refine blG ?_ _ | refine blH ?_ | refine blI ?_ ?_ _) | (simp only [World.size_alloc]; omega) | (simp <;> omega)))) (by omega))).mono ?_); rintro e w' ⟨z, rfl, rfl⟩) | ((with_reducible refine (Kin.call0 (validR_any _ a _ (HLA.out.below (by repeat (first | with_reducible (first | exact blA | exact blB | refine blC _ ?_ | refine blD ?_ ?_ _ | refine blE ?_ | refine blF _ ?_ | refine blG ?_ _ | refine blH ?_ | refine blI ?_ ?_ _) | (simp only [World.size_alloc]; omega) | (simp <;> omega)))) (by omega))).mono ?_); rintro e w' ⟨z, rfl, rfl⟩))
      | (go_at_call 77; first | ((with_reducible refine (Kin.call _ (validR_any _ b _ (HLB.out.below (by repeat (first | with_reducible (first | exact blA | exact blB | refine blC _ ?_ | refine blD ?_ ?_ _ | refine blE ?_ | refine blF _ ?_ | refine blG ?_ _ | refine blH ?_ | refine blI ?_ ?_ _) | (simp only [World.size_alloc]; omega) | (simp <;> omega)))) (by omega))).mono ?_); rintro e w' ⟨z, rfl, rfl⟩) | ((with_reducible refine (Kin.call0 (validR_any _ b _ (HLB.out.below (by repeat (first | with_reducible (first | exact blA | exact blB | refine blC _ ?_ | refine blD ?_ ?_ _ | refine blE ?_ | refine blF _ ?_ | refine blG ?_ _ | refine blH ?_ | refine blI ?_ ?_ _) | (simp only [World.size_alloc]; omega) | (simp <;> omega)))) (by omega))).mono ?_); rintro e w' ⟨z, rfl, rfl⟩))
      | (go_at_call 98; first | ((with_reducible refine (Kin.call _ (bounds_any _ (a ++ b) _ HC.out (by rw [List.length_append]; omega))).mono ?_); rintro e w' ⟨z0, ⟨u, rfl, hu⟩, rfl⟩; skip) | ((with_reducible refine (Kin.call0 (bounds_any _ (a ++ b) _ HC.out (by rw [List.length_append]; omega))).mono ?_); rintro e w' ⟨z0, ⟨u, rfl, hu⟩, rfl⟩; skip))
      | (at_builtin; refine wpList_app _ rfl _ _ 45 rfl encRun_len (by decide) oneR w.heap.size 61 (.agg #[.int .i64 0, .int .i64 0]) 16 infoRun rfl Try.underlying45 _ _ _ _ rfl (hown') _ _ _ rfl (HLB.out.below (by repeat (first | with_reducible (first | exact blA | exact blB | refine blC _ ?_ | refine blD ?_ ?_ _ | refine blE ?_ | refine blF _ ?_ | refine blG ?_ _ | refine blH ?_ | refine blI ?_ ?_ _) | (simp only [World.size_alloc]; omega) | (simp <;> omega)))) ?c1 (by decide) ?c2 ?_; (case c1 => (first | (simp only [List.length_append, List.length_cons, List.length_nil]; omega) | omega | (simp; omega))); (case c2 => exact (by repeat (first | with_reducible exact Nat.le_refl _ | assumption | with_reducible refine le_alloc ?_ _ | with_reducible refine le_drew ?_ | with_reducible refine Kin.le _ ?_ | assumption | omega | (simp only [World.size_alloc]; omega)))); intro v' w1 hown' hg hbel hat'; (obtain ⟨y, rfl⟩ : ∃ y : Kin w, y.1 = w1 := ⟨⟨w1, Below.trans (by repeat (first | with_reducible (first | exact blA | exact blB | refine blC _ ?_ | refine blD ?_ ?_ _ | refine blE ?_ | refine blF _ ?_ | refine blG ?_ _ | refine blH ?_ | refine blI ?_ ?_ _) | (simp only [World.size_alloc]; omega) | (simp <;> omega))) hbel⟩, rfl⟩); clear hbel hg hat'; (have HC := Lib.hid (Rd.own encRun_len hown'); clear hown'))
      | (at_builtin; refine wpList_app _ rfl _ _ 45 rfl encRun_len (by decide) oneR w.heap.size 61 (.agg #[.int .i64 0, .int .i64 0]) 16 infoRun rfl Try.underlying45 _ _ _ _ rfl (own_made _ encRun_len w.heap.size _ [] #[] rfl (by repeat (first | with_reducible exact Nat.le_refl _ | assumption | with_reducible refine le_alloc ?_ _ | with_reducible refine le_drew ?_ | with_reducible refine Kin.le _ ?_ | assumption | omega | (simp only [World.size_alloc]; omega))) (by decide)) _ _ _ rfl (HLA.out.below (by repeat (first | with_reducible (first | exact blA | exact blB | refine blC _ ?_ | refine blD ?_ ?_ _ | refine blE ?_ | refine blF _ ?_ | refine blG ?_ _ | refine blH ?_ | refine blI ?_ ?_ _) | (simp only [World.size_alloc]; omega) | (simp <;> omega)))) ?c1 (by decide) ?c2 ?_; (case c1 => (first | (simp only [List.length_append, List.length_cons, List.length_nil]; omega) | omega | (simp; omega))); (case c2 => exact (by repeat (first | with_reducible exact Nat.le_refl _ | assumption | with_reducible refine le_alloc ?_ _ | with_reducible refine le_drew ?_ | with_reducible refine Kin.le _ ?_ | assumption | omega | (simp only [World.size_alloc]; omega)))); intro v' w1 hown' hg hbel hat'; (obtain ⟨y, rfl⟩ : ∃ y : Kin w, y.1 = w1 := ⟨⟨w1, Below.trans (by repeat (first | with_reducible (first | exact blA | exact blB | refine blC _ ?_ | refine blD ?_ ?_ _ | refine blE ?_ | refine blF _ ?_ | refine blG ?_ _ | refine blH ?_ | refine blI ?_ ?_ _) | (simp only [World.size_alloc]; omega) | (simp <;> omega))) hbel⟩, rfl⟩); clear hbel hg hat'))
    obtain ⟨C, capC, rfl, hcapC, hopC⟩ := hu.open_
    have HC := Lib.hid hopC
    have HLC := Lib.hid hu
    clear hopC hu
    go_loopw [9, 10] (fun o i wr => ∃ k : Nat, k ≤ (bnds (a ++ b)).length - 1 ∧ i = .int .i64 k ∧ ∃ y : Kin z0.1, y.1 = wr ∧ wr.ownsRow z0.1.heap.size 61 2 o (swTo P (bnds (a ++ b)) k).length ((swTo P (bnds (a ++ b)) k).flatMap encRun)) (fun _ i _ => (bnds (a ++ b)).length - (intOf i).toNat)
    case atStart => exact ⟨0, Nat.zero_le _, rfl, ⟨z0.1, Below.refl _ _⟩, rfl, World.ownsRow_nil _ _ _ _⟩
    case round =>
      obtain ⟨k, hk, rfl, y, rfl, hown⟩ := hrel
      have hE := swTo_len P (bnds (a ++ b)) k
      generalize hG : swTo P (bnds (a ++ b)) k = E at hown hE
      have hrdD := Rd.own encRun_len hown
      obtain ⟨D, capD, rfl, hcapD, _⟩ := hrdD.open_
      have HWD := Lib.hid hown
      clear hown hrdD
      by_cases hlt : k + 1 < (bnds (a ++ b)).length
      · obtain ⟨r, hr⟩ : ∃ el_, (bnds (a ++ b))[k]? = some el_ := ⟨_, List.getElem?_eq_getElem (by first | exact hlt | omega)⟩
        obtain ⟨bC, offC, rfl, hbC, hcC⟩ := HC.out (k) _ hr
        have r_0 : z0.1.cell? ⟨bC, offC + k, none⟩ = some (.int .i64 r) := by have := hcC (k) _ hr 0 _ rfl; simpa using this
        have hbC2 : bC < z0.1.heap.size + 1 := by omega
        have HCc := Lib.hid hcC
        have Hr := Lib.hid hr
        clear hr hcC
        obtain ⟨s, hs⟩ : ∃ el_, (bnds (a ++ b))[k + 1]? = some el_ := ⟨_, List.getElem?_eq_getElem (by first | exact hlt | omega)⟩
        have s_0 : z0.1.cell? ⟨bC, offC + (k + 1), none⟩ = some (.int .i64 s) := by have := HCc.out (k + 1) _ hs 0 _ rfl; simpa using this
        have Hs := Lib.hid hs
        clear hs
        have hp : P r = opf n (mem a r) (mem b r) := by rw [HP.out]
        have HG := Lib.hid hG
        clear hG
        have H1 := Lib.hid (fun h => sw_yes (P := P) Hr.out Hs.out h)
        have H2 := Lib.hid (fun h => sw_no (P := P) Hr.out h)
        rcases hn with rfl | rfl | rfl <;> cases hma : mem a r <;> cases hmb : mem b r
        all_goals
          rw [hma, hmb] at hp
          have hp2 := Lib.hid hp
          clear hp
          go_wp2_with (first | (go_at_call 99; (with_reducible refine (Kin.callK (W := (Kin.wd z0)) (by repeat (first | with_reducible (first | exact blA | exact blB | refine blC _ ?_ | refine blD ?_ ?_ _ | refine blE ?_ | refine blF _ ?_ | refine blG ?_ _ | refine blH ?_ | refine blI ?_ ?_ _) | (simp only [World.size_alloc]; omega) | (simp <;> omega))) (in_any _ a r _ (HLA.out.below (by repeat (first | with_reducible (first | exact blA | exact blB | refine blC _ ?_ | refine blD ?_ ?_ _ | refine blE ?_ | refine blF _ ?_ | refine blG ?_ _ | refine blH ?_ | refine blI ?_ ?_ _) | (simp only [World.size_alloc]; omega) | (simp <;> omega)))) (by omega))).mono ?_); rintro e w' ⟨z, rfl, hz, rfl⟩) | (go_at_call 99; (with_reducible refine (Kin.callK (W := (Kin.wd z0)) (by repeat (first | with_reducible (first | exact blA | exact blB | refine blC _ ?_ | refine blD ?_ ?_ _ | refine blE ?_ | refine blF _ ?_ | refine blG ?_ _ | refine blH ?_ | refine blI ?_ ?_ _) | (simp only [World.size_alloc]; omega) | (simp <;> omega))) (in_any _ b r _ (HLB.out.below (by repeat (first | with_reducible (first | exact blA | exact blB | refine blC _ ?_ | refine blD ?_ ?_ _ | refine blE ?_ | refine blF _ ?_ | refine blG ?_ _ | refine blH ?_ | refine blI ?_ ?_ _) | (simp only [World.size_alloc]; omega) | (simp <;> omega)))) (by omega))).mono ?_); rintro e w' ⟨z2, rfl, hz2, rfl⟩; skip))
        all_goals first
          | (go_roundw
             case rel => exact ⟨k + 1, by omega, by go_num, ⟨_, (by repeat (first | with_reducible (first | exact blA | exact blB | refine blC _ ?_ | refine blD ?_ ?_ _ | refine blE ?_ | refine blF _ ?_ | refine blG ?_ _ | refine blH ?_ | refine blI ?_ ?_ _) | (simp only [World.size_alloc]; omega) | (simp <;> omega)))⟩, rfl, by rw [H2.out (by rw [hp2.out]; rfl), HG.out]; exact own_below (own_below HWD.out hz) (by repeat (first | exact hz2 | with_reducible refine Kin.below _ ?_ | with_reducible exact Below.refl _ _))⟩
             case measure => simp [intOf]; omega)
          | (have hlt0 : k < (bnds (a ++ b)).length := by omega
             have hw1 : IntKind.i64.wrap ((k : Int) + 1) = (k : Int) + 1 := IntWalk.i64_in _ (by omega)
             have hw2 : 0 ≤ (k : Int) + 1 := by omega
             have hw3 : ((k : Int) + 1).toNat = k + 1 := by omega
             ((refine wp_region_kin_tail 10 (by kernel_rfl) (by kernel_rfl) ?_); simp only [List.take_succ_cons, List.take_zero, List.drop_succ_cons, List.drop_zero]; (repeat' (first | go_big_quiet_step (fail) | ((refine wpQuiet_guard rfl rfl rfl rfl (fun hg => ?_) (fun hg => ?_)) <;> (fail_if_success (first | guard_hyp hg : true = true | guard_hyp hg : false = false)) <;> (try simp only [decide_eq_true_eq, decide_eq_false_iff_not] at hg) <;> simp only [Act.put, List.setIfInBounds_toArray, List.set_cons_zero, List.set_cons_succ]))); all_goals ((with_reducible refine wpQuiet_nil ?_); rintro _ ⟨zq, rfl⟩))
             clear hw1 hw2 hw3
             go_wp2_with (go_at_call 100; (with_reducible refine (Kin.callB (W := (Kin.wd z0)) (by repeat (first | with_reducible (first | exact blA | exact blB | refine blC _ ?_ | refine blD ?_ ?_ _ | refine blE ?_ | refine blF _ ?_ | refine blG ?_ _ | refine blH ?_ | refine blI ?_ ?_ _) | (simp only [World.size_alloc]; omega) | (simp <;> omega))) (put_any (Kin.wd z0).heap.size _ E r s _ (own_below (own_below HWD.out hz) (by repeat (first | exact hz2 | with_reducible refine Kin.below _ ?_ | with_reducible exact Below.refl _ _))) (by repeat (first | with_reducible exact Nat.le_refl _ | assumption | with_reducible refine le_alloc ?_ _ | with_reducible refine le_drew ?_ | with_reducible refine Kin.le _ ?_ | assumption | omega | (simp only [World.size_alloc]; omega))) (by omega))).mono ?_); rintro e w' ⟨y2, ⟨u2, rfl, hu2⟩, rfl⟩; skip)
             go_roundw
             case rel => exact ⟨k + 1, by omega, by go_num, y2, rfl, by rw [H1.out (by rw [hp2.out]; rfl), HG.out]; exact hu2⟩
             case measure => simp [intOf]; omega)
      · go_wp2
        go_ret
        have : k = (bnds (a ++ b)).length - 1 := by omega
        rw [← this, hG]
        exact ⟨⟨_, _, rfl, (by have := z0.2.size; exact Nat.le_trans (by repeat (first | with_reducible exact Nat.le_refl _ | assumption | with_reducible refine le_alloc ?_ _ | with_reducible refine le_drew ?_ | with_reducible refine Kin.le _ ?_ | assumption | omega | (simp only [World.size_alloc]; omega))) this), HWD.out⟩, (by repeat (first | with_reducible (first | exact blA | exact blB | refine blC _ ?_ | refine blD ?_ ?_ _ | refine blE ?_ | refine blF _ ?_ | refine blG ?_ _ | refine blH ?_ | refine blI ?_ ?_ _) | (simp only [World.size_alloc]; omega) | (simp <;> omega)))⟩
set_option maxHeartbeats 1000000 in
theorem intersectR_own (v u : Value) (a b : List Run) (w : World) (h : Rd 2 encRun w v a) (h' : Rd 2 encRun w u b) (hlen : a.length ≤ 17179869184) (hlen' : b.length ≤ 17179869184) :
    Calls Try.prog 52 #[v, u] w fun e w' => (∃ u B, e = .returned u ∧ w.heap.size ≤ B ∧ w'.ownsRow B 61 2 u (setop (opf 1) a b).length ((setop (opf 1) a b).flatMap encRun)) ∧ Below w.heap.size w w' := by
  go_enter Try.func52, Try.ntmps52
  go_wp2_with (go_at_call 78; (with_reducible refine (Kin.callK (W := w) (by repeat (first | with_reducible (first | exact blA | exact blB | refine blC _ ?_ | refine blD ?_ ?_ _ | refine blE ?_ | refine blF _ ?_ | refine blG ?_ _ | refine blH ?_ | refine blI ?_ ?_ _) | (simp only [World.size_alloc]; omega) | (simp <;> omega))) (chooseR_own _ _ a b 1 (by omega) _ (h.below (by repeat (first | with_reducible (first | exact blA | exact blB | refine blC _ ?_ | refine blD ?_ ?_ _ | refine blE ?_ | refine blF _ ?_ | refine blG ?_ _ | refine blH ?_ | refine blI ?_ ?_ _) | (simp only [World.size_alloc]; omega) | (simp <;> omega)))) (h'.below (by repeat (first | with_reducible (first | exact blA | exact blB | refine blC _ ?_ | refine blD ?_ ?_ _ | refine blE ?_ | refine blF _ ?_ | refine blG ?_ _ | refine blH ?_ | refine blI ?_ ?_ _) | (simp only [World.size_alloc]; omega) | (simp <;> omega)))) hlen hlen')).mono ?_); rintro e w' ⟨z, ⟨r, B, rfl, hB, hr⟩, hz, rfl⟩; (have HR := Lib.hid hr; clear hr))
  go_ret
  exact ⟨⟨_, B, rfl, hB, HR.out⟩, (by repeat (first | with_reducible (first | exact blA | exact blB | refine blC _ ?_ | refine blD ?_ ?_ _ | refine blE ?_ | refine blF _ ?_ | refine blG ?_ _ | refine blH ?_ | refine blI ?_ ?_ _) | (simp only [World.size_alloc]; omega) | (simp <;> omega)))⟩
/-- what the call owns from a later base on lies in no older block -/
theorem own_new {W : World} {B n size m : Nat} {e : TypeId} {v v2 : Value} {xs : List Value} (h : W.ownsRow B e size v n xs) (hB : m ≤ B) (hlt : ∀ b, v2.ownBlock = some b → b < m) : n = 0 ∨ v.ownBlock ≠ v2.ownBlock :=
  own_fresh h fun b hb => Nat.lt_of_lt_of_le (hlt b hb) hB
end Go.Proofs.Ytjppaknajdbkgaa

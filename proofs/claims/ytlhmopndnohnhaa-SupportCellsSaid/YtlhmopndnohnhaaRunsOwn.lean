/- The chapter's functions on runs return lists of their own memory. -/
import Derived.Test.YtlhmopndnohnhaaRunsRef3
import Derived.Test.YtlhmopndnohnhaaRegKitA
namespace Go.Proofs.Ytlhmopndnohnhaa
set_option linter.unusedSimpArgs false
set_option linter.unusedVariables false
open Go.RowKit Runs
attribute [local go_sem] Kin.cell Kin.frozen Kin.lt0 Kin.lt1 Kin.lt2 Kin.lt3 run_mkf
set_option maxRecDepth 100000 in
set_option maxHeartbeats 4000000 in
theorem normalR_own (v : Value) (l : List Run) (w : World) (h : Rd 2 encRun w v l) (hlen : l.length ≤ 68719476736) :
    Calls Try.prog 70 #[v] w fun e w' => (∃ u B, e = .returned u ∧ w.heap.size ≤ B ∧ w'.ownsRow B 53 2 u (normal l).length ((normal l).flatMap encRun)) ∧ Below w.heap.size w w' := by
  obtain ⟨A, capA, rfl, hcapA, hopA⟩ := h.open_
  have HA := Lib.hid hopA
  have HLA := Lib.hid h
  clear hopA h
  have hbl := bnds_len l
  go_enter Try.func70, Try.ntmps70
  go_wp2_with (go_at_call 80; first | ((with_reducible refine (Kin.call _ (bounds_any _ l _ (HLA.out.below (by repeat (first | with_reducible exact Below.refl _ _ | with_reducible exact Nat.le_refl _ | with_reducible refine Kin.below _ ?_ | with_reducible refine Below.alloc ?_ ?_ _ | with_reducible refine Below.drew ?_ | with_reducible refine Kin.le _ ?_ | with_reducible refine le_alloc ?_ _ | with_reducible refine le_drew ?_ | with_reducible refine Below.setCell ?_ ?_ _ | with_reducible exact Nat.le_refl _ | (simp only [World.size_alloc]; omega) | (simp <;> omega)))) (by omega))).mono ?_); rintro e w' ⟨z0, ⟨u, rfl, hu⟩, rfl⟩; skip) | ((with_reducible refine (Kin.call0 (bounds_any _ l _ (HLA.out.below (by repeat (first | with_reducible exact Below.refl _ _ | with_reducible exact Nat.le_refl _ | with_reducible refine Kin.below _ ?_ | with_reducible refine Below.alloc ?_ ?_ _ | with_reducible refine Below.drew ?_ | with_reducible refine Kin.le _ ?_ | with_reducible refine le_alloc ?_ _ | with_reducible refine le_drew ?_ | with_reducible refine Below.setCell ?_ ?_ _ | with_reducible exact Nat.le_refl _ | (simp only [World.size_alloc]; omega) | (simp <;> omega)))) (by omega))).mono ?_); rintro e w' ⟨z0, ⟨u, rfl, hu⟩, rfl⟩; skip))
  obtain ⟨B, capB, rfl, hcapB, hopB⟩ := hu.open_
  have HB := Lib.hid hopB
  have HLB := Lib.hid hu
  clear hopB hu
  go_loopw [4, 5] (fun o i wr => ∃ k : Nat, k ≤ (bnds l).length - 1 ∧ i = .int .i64 k ∧ ∃ y : Kin z0.1, y.1 = wr ∧ wr.ownsRow z0.1.heap.size 53 2 o (swTo (mem l) (bnds l) k).length ((swTo (mem l) (bnds l) k).flatMap encRun)) (fun _ i _ => (bnds l).length - (intOf i).toNat)
  case atStart => exact ⟨0, Nat.zero_le _, rfl, ⟨z0.1, Below.refl _ _⟩, rfl, World.ownsRow_nil _ _ _ _⟩
  case round =>
    obtain ⟨k, hk, rfl, y, rfl, hown⟩ := hrel
    have hE := swTo_len (mem l) (bnds l) k
    have hrdC := Rd.own encRun_len hown
    obtain ⟨C, capC, rfl, hcapC, _⟩ := hrdC.open_
    have HWC := Lib.hid hown
    clear hown hrdC
    by_cases hlt : k + 1 < (bnds l).length
    · obtain ⟨r, hr⟩ : ∃ el_, (bnds l)[k]? = some el_ := ⟨_, List.getElem?_eq_getElem (by first | exact hlt | omega)⟩
      obtain ⟨bB, offB, rfl, hbB, hcB⟩ := HB.out (k) _ hr
      have r_0 : z0.1.cell? ⟨bB, offB + k, none⟩ = some (.int .i64 r) := by have := hcB (k) _ hr 0 _ rfl; simpa using this
      have hbB2 : bB < z0.1.heap.size + 1 := by omega
      have HBc := Lib.hid hcB
      have Hr := Lib.hid hr
      clear hr hcB
      obtain ⟨s, hs⟩ : ∃ el_, (bnds l)[k + 1]? = some el_ := ⟨_, List.getElem?_eq_getElem (by first | exact hlt | omega)⟩
      have s_0 : z0.1.cell? ⟨bB, offB + (k + 1), none⟩ = some (.int .i64 s) := by have := HBc.out (k + 1) _ hs 0 _ rfl; simpa using this
      have Hs := Lib.hid hs
      clear hs
      cases hm : mem l r
      · go_wp2_with (go_at_call 81; (with_reducible refine (Kin.callK (W := (Kin.wd z0)) (by repeat (first | with_reducible exact Below.refl _ _ | with_reducible exact Nat.le_refl _ | with_reducible refine Kin.below _ ?_ | with_reducible refine Below.alloc ?_ ?_ _ | with_reducible refine Below.drew ?_ | with_reducible refine Kin.le _ ?_ | with_reducible refine le_alloc ?_ _ | with_reducible refine le_drew ?_ | with_reducible refine Below.setCell ?_ ?_ _ | with_reducible exact Nat.le_refl _ | (simp only [World.size_alloc]; omega) | (simp <;> omega))) (in_any _ l r _ (HLA.out.below (by repeat (first | with_reducible exact Below.refl _ _ | with_reducible exact Nat.le_refl _ | with_reducible refine Kin.below _ ?_ | with_reducible refine Below.alloc ?_ ?_ _ | with_reducible refine Below.drew ?_ | with_reducible refine Kin.le _ ?_ | with_reducible refine le_alloc ?_ _ | with_reducible refine le_drew ?_ | with_reducible refine Below.setCell ?_ ?_ _ | with_reducible exact Nat.le_refl _ | (simp only [World.size_alloc]; omega) | (simp <;> omega)))) (by omega))).mono ?_); rintro e w' ⟨z, rfl, hz, rfl⟩)
        go_roundw
        case rel => exact ⟨k + 1, by omega, by go_num, ⟨_, (by repeat (first | with_reducible exact Below.refl _ _ | with_reducible exact Nat.le_refl _ | with_reducible refine Kin.below _ ?_ | with_reducible refine Below.alloc ?_ ?_ _ | with_reducible refine Below.drew ?_ | with_reducible refine Kin.le _ ?_ | with_reducible refine le_alloc ?_ _ | with_reducible refine le_drew ?_ | with_reducible refine Below.setCell ?_ ?_ _ | with_reducible exact Nat.le_refl _ | (simp only [World.size_alloc]; omega) | (simp <;> omega)))⟩, rfl, by rw [sw_no Hr.out hm]; exact own_below HWC.out (by repeat (first | exact hz | with_reducible refine Kin.below _ ?_ | with_reducible exact Below.refl _ _))⟩
        case measure => simp [intOf]; omega
      · go_wp2_with (go_at_call 81; (with_reducible refine (Kin.callK (W := (Kin.wd z0)) (by repeat (first | with_reducible exact Below.refl _ _ | with_reducible exact Nat.le_refl _ | with_reducible refine Kin.below _ ?_ | with_reducible refine Below.alloc ?_ ?_ _ | with_reducible refine Below.drew ?_ | with_reducible refine Kin.le _ ?_ | with_reducible refine le_alloc ?_ _ | with_reducible refine le_drew ?_ | with_reducible refine Below.setCell ?_ ?_ _ | with_reducible exact Nat.le_refl _ | (simp only [World.size_alloc]; omega) | (simp <;> omega))) (in_any _ l r _ (HLA.out.below (by repeat (first | with_reducible exact Below.refl _ _ | with_reducible exact Nat.le_refl _ | with_reducible refine Kin.below _ ?_ | with_reducible refine Below.alloc ?_ ?_ _ | with_reducible refine Below.drew ?_ | with_reducible refine Kin.le _ ?_ | with_reducible refine le_alloc ?_ _ | with_reducible refine le_drew ?_ | with_reducible refine Below.setCell ?_ ?_ _ | with_reducible exact Nat.le_refl _ | (simp only [World.size_alloc]; omega) | (simp <;> omega)))) (by omega))).mono ?_); rintro e w' ⟨z, rfl, hz, rfl⟩)
        have hlt0 : k < (bnds l).length := by omega
        have hw1 : IntKind.i64.wrap ((k : Int) + 1) = (k : Int) + 1 := IntWalk.i64_in _ (by omega)
        have hw2 : 0 ≤ (k : Int) + 1 := by omega
        have hw3 : ((k : Int) + 1).toNat = k + 1 := by omega
        ((refine wp_region_kin_tail 10 (by kernel_rfl) (by kernel_rfl) ?_); simp only [List.take_succ_cons, List.take_zero, List.drop_succ_cons, List.drop_zero]; (repeat' (first | go_big_quiet_step (fail) | ((refine wpQuiet_guard rfl rfl rfl rfl (fun hg => ?_) (fun hg => ?_)) <;> (fail_if_success (first | guard_hyp hg : true = true | guard_hyp hg : false = false)) <;> (try simp only [decide_eq_true_eq, decide_eq_false_iff_not] at hg) <;> simp only [Act.put, List.setIfInBounds_toArray, List.set_cons_zero, List.set_cons_succ]))); all_goals ((with_reducible refine wpQuiet_nil ?_); rintro _ ⟨zq, rfl⟩))
        clear hw1 hw2 hw3
        go_wp2_with (go_at_call 82; (with_reducible refine (Kin.callB (W := (Kin.wd z0)) (by repeat (first | with_reducible exact Below.refl _ _ | with_reducible exact Nat.le_refl _ | with_reducible refine Kin.below _ ?_ | with_reducible refine Below.alloc ?_ ?_ _ | with_reducible refine Below.drew ?_ | with_reducible refine Kin.le _ ?_ | with_reducible refine le_alloc ?_ _ | with_reducible refine le_drew ?_ | with_reducible refine Below.setCell ?_ ?_ _ | with_reducible exact Nat.le_refl _ | (simp only [World.size_alloc]; omega) | (simp <;> omega))) (put_any (Kin.wd z0).heap.size _ (swTo (mem l) (bnds l) k) r s _ (own_below HWC.out (by repeat (first | exact hz | with_reducible refine Kin.below _ ?_ | with_reducible exact Below.refl _ _))) (by repeat (first | with_reducible exact Nat.le_refl _ | assumption | with_reducible refine le_alloc ?_ _ | with_reducible refine le_drew ?_ | with_reducible refine Kin.le _ ?_ | assumption | omega | (simp only [World.size_alloc]; omega))) (by omega))).mono ?_); rintro e w' ⟨y2, ⟨u2, rfl, hu2⟩, rfl⟩; skip)
        go_roundw
        case rel => exact ⟨k + 1, by omega, by go_num, y2, rfl, by rw [sw_yes Hr.out Hs.out hm]; exact hu2⟩
        case measure => simp [intOf]; omega
    · go_wp2
      go_ret
      have : k = (bnds l).length - 1 := by omega
      have e : normal l = swTo (mem l) (bnds l) k := by rw [this]; rfl
      rw [e]
      exact ⟨⟨_, _, rfl, z0.2.size, HWC.out⟩, (by repeat (first | with_reducible exact Below.refl _ _ | with_reducible exact Nat.le_refl _ | with_reducible refine Kin.below _ ?_ | with_reducible refine Below.alloc ?_ ?_ _ | with_reducible refine Below.drew ?_ | with_reducible refine Kin.le _ ?_ | with_reducible refine le_alloc ?_ _ | with_reducible refine le_drew ?_ | with_reducible refine Below.setCell ?_ ?_ _ | with_reducible exact Nat.le_refl _ | (simp only [World.size_alloc]; omega) | (simp <;> omega)))⟩
set_option maxRecDepth 100000 in
set_option maxHeartbeats 4000000 in
theorem normR_own (v : Value) (l : List Run) (w : World) (h : Rd 2 encRun w v l) (hlen : l.length ≤ 68719476736) :
    Calls Try.prog 53 #[v] w fun e w' => (∃ u B, e = .returned (.tuple #[u, .int .i64 (normE l)]) ∧ w.heap.size ≤ B ∧ w'.ownsRow B 53 2 u (normR l).length ((normR l).flatMap encRun)) ∧ Below w.heap.size w w' := by
  obtain ⟨A, capA, rfl, hcapA, hopA⟩ := h.open_
  have HA := Lib.hid hopA
  have HLA := Lib.hid h
  clear hopA h
  go_enter Try.func53, Try.ntmps53
  go_wp2
  go_loopw [4] (fun i wr => ∃ k : Nat, k ≤ l.length ∧ i = .int .i64 k ∧ Hid (normOk (l.take k) = true) ∧ ∃ z : Kin w, z.1 = wr) (fun i _ => l.length - (intOf i).toNat)
  case atStart => exact ⟨0, Nat.zero_le _, rfl, rfl, ⟨w, Below.refl _ _⟩, rfl⟩
  case round =>
    obtain ⟨k, hk, rfl, hm, y0, rfl⟩ := hrel
    by_cases hlt : k < l.length
    · obtain ⟨r, hr⟩ : ∃ el_, (l)[k]? = some el_ := ⟨_, List.getElem?_eq_getElem (by first | exact hlt | omega)⟩
      obtain ⟨bA, offA, rfl, hbA, hcA⟩ := HA.out (k) _ hr
      have r_0 : w.cell? ⟨bA, offA + k * 2, none⟩ = some (.int .i64 r.1) := by exact hcA (k) _ hr 0 _ rfl
      have r_1 : w.cell? ⟨bA, offA + k * 2 + 1, none⟩ = some (.int .i64 r.2) := by exact hcA (k) _ hr 1 _ rfl
      have hbA2 : bA < w.heap.size + 1 := by omega
      have HAc := Lib.hid hcA
      have Hr := Lib.hid hr
      clear hr hcA
      go_wp2
      ((refine wp_region_kin0 (by kernel_rfl) (by kernel_rfl) ?_); (repeat' (first | go_big_quiet_step ((go_at_call 69; exact Kin.quiet _ (ok_any _ _))) | ((refine wpQuiet_guard rfl rfl rfl rfl (fun hg => ?_) (fun hg => ?_)) <;> (fail_if_success (first | guard_hyp hg : true = true | guard_hyp hg : false = false)) <;> (try simp only [decide_eq_true_eq, decide_eq_false_iff_not] at hg) <;> simp only [Act.put, List.setIfInBounds_toArray, List.set_cons_zero, List.set_cons_succ]))); all_goals ((with_reducible refine wpQuiet_nil ?_); rintro _ ⟨zq, rfl⟩))
      all_goals go_wp2
      all_goals first
        | (go_ret2
           have hno : normOk l = false := normOk_no Hr.out (by omega) (by rw [fits_okI]; simp_all)
           exact ⟨⟨.slice none 0 0, w.heap.size, by simp [normE, hno], Nat.le_refl _, by simp only [normR, hno]; exact World.ownsRow_nil _ _ _ _⟩, (by repeat (first | with_reducible exact Below.refl _ _ | with_reducible exact Nat.le_refl _ | with_reducible refine Kin.below _ ?_ | with_reducible refine Below.alloc ?_ ?_ _ | with_reducible refine Below.drew ?_ | with_reducible refine Kin.le _ ?_ | with_reducible refine le_alloc ?_ _ | with_reducible refine le_drew ?_ | with_reducible refine Below.setCell ?_ ?_ _ | with_reducible exact Nat.le_refl _ | (simp only [World.size_alloc]; omega) | (simp <;> omega)))⟩)
        | (go_roundw
           case rel => exact ⟨k + 1, by omega, by go_num, normOkTo Hr.out hm.out (fun h => by first | (exfalso; omega) | simp_all), ⟨_, (by repeat (first | with_reducible exact Below.refl _ _ | with_reducible exact Nat.le_refl _ | with_reducible refine Kin.below _ ?_ | with_reducible refine Below.alloc ?_ ?_ _ | with_reducible refine Below.drew ?_ | with_reducible refine Kin.le _ ?_ | with_reducible refine le_alloc ?_ _ | with_reducible refine le_drew ?_ | with_reducible refine Below.setCell ?_ ?_ _ | with_reducible exact Nat.le_refl _ | (simp only [World.size_alloc]; omega) | (simp <;> omega)))⟩, rfl⟩
           case measure => simp [intOf]; omega)
    · have hk4 : k = l.length := by omega
      have hok : normOk l = true := by rw [← hm.out, hk4, List.take_length]
      go_wp2_with (go_at_call 70; first | ((with_reducible refine (Kin.call _ (normalR_own _ l _ (HLA.out.below (by repeat (first | with_reducible exact Below.refl _ _ | with_reducible exact Nat.le_refl _ | with_reducible refine Kin.below _ ?_ | with_reducible refine Below.alloc ?_ ?_ _ | with_reducible refine Below.drew ?_ | with_reducible refine Kin.le _ ?_ | with_reducible refine le_alloc ?_ _ | with_reducible refine le_drew ?_ | with_reducible refine Below.setCell ?_ ?_ _ | with_reducible exact Nat.le_refl _ | (simp only [World.size_alloc]; omega) | (simp <;> omega)))) (by omega))).mono ?_); rintro e w' ⟨z, ⟨u, B, rfl, hB, hu⟩, rfl⟩; (have HU := Lib.hid hu; clear hu)) | ((with_reducible refine (Kin.call0 (normalR_own _ l _ (HLA.out.below (by repeat (first | with_reducible exact Below.refl _ _ | with_reducible exact Nat.le_refl _ | with_reducible refine Kin.below _ ?_ | with_reducible refine Below.alloc ?_ ?_ _ | with_reducible refine Below.drew ?_ | with_reducible refine Kin.le _ ?_ | with_reducible refine le_alloc ?_ _ | with_reducible refine le_drew ?_ | with_reducible refine Below.setCell ?_ ?_ _ | with_reducible exact Nat.le_refl _ | (simp only [World.size_alloc]; omega) | (simp <;> omega)))) (by omega))).mono ?_); rintro e w' ⟨z, ⟨u, B, rfl, hB, hu⟩, rfl⟩; (have HU := Lib.hid hu; clear hu)))
      go_ret2
      exact ⟨⟨u, B, by simp [normE, hok], Nat.le_trans y0.2.size hB, by simp only [normR, hok, if_true]; rw [← norm_normal]; exact HU.out⟩, (by repeat (first | with_reducible exact Below.refl _ _ | with_reducible exact Nat.le_refl _ | with_reducible refine Kin.below _ ?_ | with_reducible refine Below.alloc ?_ ?_ _ | with_reducible refine Below.drew ?_ | with_reducible refine Kin.le _ ?_ | with_reducible refine le_alloc ?_ _ | with_reducible refine le_drew ?_ | with_reducible refine Below.setCell ?_ ?_ _ | with_reducible exact Nat.le_refl _ | (simp only [World.size_alloc]; omega) | (simp <;> omega)))⟩
/-- what the call owns from a later base on lies in no older block -/
theorem own_new {W : World} {B n size m : Nat} {e : TypeId} {v v2 : Value} {xs : List Value} (h : W.ownsRow B e size v n xs) (hB : m ≤ B) (hlt : ∀ b, v2.ownBlock = some b → b < m) : n = 0 ∨ v.ownBlock ≠ v2.ownBlock :=
  own_fresh h fun b hb => Nat.lt_of_lt_of_le (hlt b hb) hB
end Go.Proofs.Ytlhmopndnohnhaa

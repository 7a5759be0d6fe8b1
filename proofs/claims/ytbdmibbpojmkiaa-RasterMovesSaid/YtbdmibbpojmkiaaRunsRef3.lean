/- What the chapter's Normal, Norm and set operations on runs return. -/
import Derived.Test.YtbdmibbpojmkiaaRunsB
import Derived.Test.YtbdmibbpojmkiaaRunsNorm
namespace Go.Proofs.Ytbdmibbpojmkiaa
set_option linter.unusedSimpArgs false
set_option linter.unusedVariables false
open Go.RowKit Runs
attribute [local go_sem] Kin.cell Kin.frozen Kin.lt0 Kin.lt1 Kin.lt2 Kin.lt3 run_mkf
theorem at_some {b : List Int} {k : Nat} {r : Int} (h : b[k]? = some r) : at_ b k = r := by simp [at_, h]
theorem sw_yes {P : Int → Bool} {b : List Int} {k : Nat} {r s : Int} (hr : b[k]? = some r) (hs : b[k + 1]? = some s) (h : P r = true) : swTo P b (k + 1) = put (swTo P b k) r s := by
  rw [swTo_succ]; unfold swStep; rw [at_some hr, at_some hs, if_pos h]
theorem sw_no {P : Int → Bool} {b : List Int} {k : Nat} {r : Int} (hr : b[k]? = some r) (h : P r = false) : swTo P b (k + 1) = swTo P b k := by
  rw [swTo_succ]; unfold swStep; rw [at_some hr, h]; rfl
set_option maxRecDepth 100000 in
set_option maxHeartbeats 4000000 in
theorem normalR_any (v : Value) (l : List Run) (w : World) (h : Rd 2 encRun w v l) (hlen : l.length ≤ 68719476736) :
    Calls Try.prog 34 #[v] w fun e w' => (∃ u, e = .returned u ∧ Rd 2 encRun w' u (normal l)) ∧ Below w.heap.size w w' := by
  obtain ⟨A, capA, rfl, hcapA, hopA⟩ := h.open_
  have HA := Lib.hid hopA
  have HLA := Lib.hid h
  clear hopA h
  have hbl := bnds_len l
  go_enter Try.func34, Try.ntmps34
  go_wp2_with (go_at_call 53; first | ((with_reducible refine (Kin.call _ (bounds_any _ l _ (HLA.out.below (by repeat (first | with_reducible (first | exact blA | exact blB | refine blC _ ?_ | refine blD ?_ ?_ _ | refine blE ?_ | refine blF _ ?_ | refine blG ?_ _ | refine blH ?_ | refine blI ?_ ?_ _) | (simp only [World.size_alloc]; omega) | (simp <;> omega)))) (by omega))).mono ?_); rintro e w' ⟨z0, ⟨u, rfl, hu⟩, rfl⟩; skip) | ((with_reducible refine (Kin.call0 (bounds_any _ l _ (HLA.out.below (by repeat (first | with_reducible (first | exact blA | exact blB | refine blC _ ?_ | refine blD ?_ ?_ _ | refine blE ?_ | refine blF _ ?_ | refine blG ?_ _ | refine blH ?_ | refine blI ?_ ?_ _) | (simp only [World.size_alloc]; omega) | (simp <;> omega)))) (by omega))).mono ?_); rintro e w' ⟨z0, ⟨u, rfl, hu⟩, rfl⟩; skip))
  obtain ⟨B, capB, rfl, hcapB, hopB⟩ := hu.open_
  have HB := Lib.hid hopB
  have HLB := Lib.hid hu
  clear hopB hu
  go_loopw [4, 5] (fun o i wr => ∃ k : Nat, k ≤ (bnds l).length - 1 ∧ i = .int .i64 k ∧ ∃ y : Kin z0.1, y.1 = wr ∧ wr.ownsRow z0.1.heap.size 46 2 o (swTo (mem l) (bnds l) k).length ((swTo (mem l) (bnds l) k).flatMap encRun)) (fun _ i _ => (bnds l).length - (intOf i).toNat)
  case atStart => exact ⟨0, Nat.zero_le _, rfl, ⟨z0.1, Below.refl _ _⟩, rfl, World.ownsRow_nil _ _ _ _⟩
  case round =>
    obtain ⟨k, hk, rfl, y, rfl, hown⟩ := hrel
    have hE := swTo_len (mem l) (bnds l) k
    have hrdC := Rd.own encRun_len hown
    obtain ⟨C, capC, rfl, hcapC, _⟩ := hrdC.open_
    have HWC := Lib.hid hown
    clear hown hrdC
    by_cases hlt : k + 1 < (bnds l).length
    · obtain ⟨r, hr⟩ : ∃ el_, (bnds l)[k]? = some el_ := ⟨_, List.getElem?_eq_getElem (by first | exact hlt | omega)⟩
      obtain ⟨bB, offB, rfl, hbB, hcB⟩ := HB.out (k) _ hr
      have r_0 : z0.1.cell? ⟨bB, offB + k, none⟩ = some (.int .i64 r) := by have := hcB (k) _ hr 0 _ rfl; simpa using this
      have hbB2 : bB < z0.1.heap.size + 1 := by omega
      have HBc := Lib.hid hcB
      have Hr := Lib.hid hr
      clear hr hcB
      obtain ⟨s, hs⟩ : ∃ el_, (bnds l)[k + 1]? = some el_ := ⟨_, List.getElem?_eq_getElem (by first | exact hlt | omega)⟩
      have s_0 : z0.1.cell? ⟨bB, offB + (k + 1), none⟩ = some (.int .i64 s) := by have := HBc.out (k + 1) _ hs 0 _ rfl; simpa using this
      have Hs := Lib.hid hs
      clear hs
      cases hm : mem l r
      · go_wp2_with (go_at_call 54; (with_reducible refine (Kin.callK (W := (Kin.wd z0)) (by repeat (first | with_reducible (first | exact blA | exact blB | refine blC _ ?_ | refine blD ?_ ?_ _ | refine blE ?_ | refine blF _ ?_ | refine blG ?_ _ | refine blH ?_ | refine blI ?_ ?_ _) | (simp only [World.size_alloc]; omega) | (simp <;> omega))) (in_any _ l r _ (HLA.out.below (by repeat (first | with_reducible (first | exact blA | exact blB | refine blC _ ?_ | refine blD ?_ ?_ _ | refine blE ?_ | refine blF _ ?_ | refine blG ?_ _ | refine blH ?_ | refine blI ?_ ?_ _) | (simp only [World.size_alloc]; omega) | (simp <;> omega)))) (by omega))).mono ?_); rintro e w' ⟨z, rfl, hz, rfl⟩)
        go_roundw
        case rel => exact ⟨k + 1, by omega, by go_num, ⟨_, (by repeat (first | with_reducible (first | exact blA | exact blB | refine blC _ ?_ | refine blD ?_ ?_ _ | refine blE ?_ | refine blF _ ?_ | refine blG ?_ _ | refine blH ?_ | refine blI ?_ ?_ _) | (simp only [World.size_alloc]; omega) | (simp <;> omega)))⟩, rfl, by rw [sw_no Hr.out hm]; exact own_below HWC.out (by repeat (first | exact hz | with_reducible refine Kin.below _ ?_ | with_reducible exact Below.refl _ _))⟩
        case measure => simp [intOf]; omega
      · go_wp2_with (go_at_call 54; (with_reducible refine (Kin.callK (W := (Kin.wd z0)) (by repeat (first | with_reducible (first | exact blA | exact blB | refine blC _ ?_ | refine blD ?_ ?_ _ | refine blE ?_ | refine blF _ ?_ | refine blG ?_ _ | refine blH ?_ | refine blI ?_ ?_ _) | (simp only [World.size_alloc]; omega) | (simp <;> omega))) (in_any _ l r _ (HLA.out.below (by repeat (first | with_reducible (first | exact blA | exact blB | refine blC _ ?_ | refine blD ?_ ?_ _ | refine blE ?_ | refine blF _ ?_ | refine blG ?_ _ | refine blH ?_ | refine blI ?_ ?_ _) | (simp only [World.size_alloc]; omega) | (simp <;> omega)))) (by omega))).mono ?_); rintro e w' ⟨z, rfl, hz, rfl⟩)
        have hlt0 : k < (bnds l).length := by omega
        have hw1 : IntKind.i64.wrap ((k : Int) + 1) = (k : Int) + 1 := IntWalk.i64_in _ (by omega)
        have hw2 : 0 ≤ (k : Int) + 1 := by omega
        have hw3 : ((k : Int) + 1).toNat = k + 1 := by omega
        ((refine wp_region_kin_tail 10 (by kernel_rfl) (by kernel_rfl) ?_); simp only [List.take_succ_cons, List.take_zero, List.drop_succ_cons, List.drop_zero]; (repeat' (first | go_big_quiet_step (fail) | ((refine wpQuiet_guard rfl rfl rfl rfl (fun hg => ?_) (fun hg => ?_)) <;> (fail_if_success (first | guard_hyp hg : true = true | guard_hyp hg : false = false)) <;> (try simp only [decide_eq_true_eq, decide_eq_false_iff_not] at hg) <;> simp only [Act.put, List.setIfInBounds_toArray, List.set_cons_zero, List.set_cons_succ]))); all_goals ((with_reducible refine wpQuiet_nil ?_); rintro _ ⟨zq, rfl⟩))
        clear hw1 hw2 hw3
        go_wp2_with (go_at_call 55; (with_reducible refine (Kin.callB (W := (Kin.wd z0)) (by repeat (first | with_reducible (first | exact blA | exact blB | refine blC _ ?_ | refine blD ?_ ?_ _ | refine blE ?_ | refine blF _ ?_ | refine blG ?_ _ | refine blH ?_ | refine blI ?_ ?_ _) | (simp only [World.size_alloc]; omega) | (simp <;> omega))) (put_any (Kin.wd z0).heap.size _ (swTo (mem l) (bnds l) k) r s _ (own_below HWC.out (by repeat (first | exact hz | with_reducible refine Kin.below _ ?_ | with_reducible exact Below.refl _ _))) (by repeat (first | with_reducible exact Nat.le_refl _ | assumption | with_reducible refine le_alloc ?_ _ | with_reducible refine le_drew ?_ | with_reducible refine Kin.le _ ?_ | assumption | omega | (simp only [World.size_alloc]; omega))) (by omega))).mono ?_); rintro e w' ⟨y2, ⟨u2, rfl, hu2⟩, rfl⟩; skip)
        go_roundw
        case rel => exact ⟨k + 1, by omega, by go_num, y2, rfl, by rw [sw_yes Hr.out Hs.out hm]; exact hu2⟩
        case measure => simp [intOf]; omega
    · go_wp2
      go_ret
      have : k = (bnds l).length - 1 := by omega
      refine ⟨⟨_, rfl, ?_⟩, (by repeat (first | with_reducible (first | exact blA | exact blB | refine blC _ ?_ | refine blD ?_ ?_ _ | refine blE ?_ | refine blF _ ?_ | refine blG ?_ _ | refine blH ?_ | refine blI ?_ ?_ _) | (simp only [World.size_alloc]; omega) | (simp <;> omega)))⟩
      show Rd 2 encRun _ _ (swTo (mem l) (bnds l) ((bnds l).length - 1))
      rw [← this]
      exact Rd.own encRun_len HWC.out
theorem norm_normal (l : List Run) : normal l = norm l := by
  obtain ⟨a, b⟩ := normal_spec l
  obtain ⟨c, d⟩ := norm_spec l
  exact sep_ext a c (fun x => by rw [b, d])
theorem normOkTo {l : List Run} {k : Nat} {r : Run} (h : l[k]? = some r) (hm : normOk (l.take k) = true) (hr : r.1 < r.2 → okI r.1 = true ∧ okI r.2 = true) : normOk (l.take (k + 1)) = true := by
  unfold normOk full at *
  rw [List.take_add_one, h, List.filter_append, List.all_append, hm]
  by_cases h1 : r.1 < r.2
  · obtain ⟨a, b⟩ := hr h1
    simp [h1, fits_okI, a, b]
  · simp [h1]
/-- the three set operations, numbered as in the chapter's text -/
def opf (n : Int) (x y : Bool) : Bool := if n = 2 then x || y else if n = 1 then x && y else x && !y
theorem opf_ff (n : Int) : opf n false false = false := by unfold opf; split <;> (try split) <;> rfl
end Go.Proofs.Ytbdmibbpojmkiaa

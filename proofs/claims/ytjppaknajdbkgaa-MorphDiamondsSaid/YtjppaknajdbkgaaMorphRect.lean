/- The law's rectangles of cells. -/
import Derived.Test.YtjppaknajdbkgaaMorphIn
import Derived.Test.YtjppaknajdbkgaaOf
namespace Go.Proofs.Ytjppaknajdbkgaa
set_option linter.unusedSimpArgs false
set_option linter.unusedVariables false
open Go.RowKit Runs Reg
attribute [local go_sem] Kin.cell Kin.frozen Kin.lt0 Kin.lt1 Kin.lt2 Kin.lt3 run_mkf
set_option maxRecDepth 100000 in
set_option maxHeartbeats 8000000 in
theorem rect_any {R : List Reg.Row} (x y wd hh : Int) (n : Nat) (w : World) (hR : ofR (rectL x y wd n) = R) (hn : wd * hh = (n : Int)) (hn1 : n ≤ 1000) (hw : 1 ≤ wd ∧ wd ≤ 1000) (hx : -10000 ≤ x ∧ x ≤ 10000) (hy : -10000 ≤ y ∧ y ≤ 10000) :
    Calls Try.prog 39 #[.int .i64 x, .int .i64 y, .int .i64 wd, .int .i64 hh] w fun e w' => (∃ A m c, e = .returned (.agg #[.slice A m c]) ∧ RdReg w' (.agg #[.slice A m c]) R) ∧ Below w.heap.size w w' := by
  subst hR
  have hw0 : ¬ wd = 0 := by omega
  have hm : IntKind.i64.wrap (wd * hh) = (n : Int) := by rw [hn]; exact IntWalk.i64_in _ (by omega)
  clear hn
  go_enter Try.func39, Try.ntmps39
  go_wp2
  go_loopw [9, 10] (fun l i wr => ∃ k : Nat, k ≤ n ∧ i = .int .i64 k ∧ Hid (OwnC (w.alloc (.cells #[.slice none 0 0] 24)).heap.size wr l (rectL x y wd k)) ∧ ∃ z : Kin (w.alloc (.cells #[.slice none 0 0] 24)), z.1 = wr) (fun _ i _ => n - (intOf i).toNat)
  case atStart => exact ⟨0, Nat.zero_le _, rfl, Lib.hid OwnC.nil, ⟨_, Below.refl _ _⟩, rfl⟩
  case round =>
    obtain ⟨k, hk, rfl, HO, z, rfl⟩ := hrel
    by_cases hlt : k < n
    · have h1 := Int.tmod_nonneg wd (show (0 : Int) ≤ (k : Int) by omega)
      have h2 := Int.tmod_lt_of_pos (k : Int) (show 0 < wd by omega)
      have h3 : 0 ≤ Int.tdiv (k : Int) wd := Int.tdiv_nonneg (by omega) (by omega)
      have h4 : Int.tdiv (k : Int) wd ≤ (k : Int) := Int.tdiv_le_self _ (by omega)
      have HL := Lib.hid (rectL_succ x y wd k)
      have hl3 : (rectL x y wd k).length ≤ 1000 := by rw [rectL_len]; omega
      generalize hp : Int.tmod (k : Int) wd = p at h1 h2 HL
      generalize hq : Int.tdiv (k : Int) wd = q at h3 h4 HL
      have w1 : IntKind.i64.wrap p = p := IntWalk.i64_in _ (by omega)
      have w2 : IntKind.i64.wrap q = q := IntWalk.i64_in _ (by omega)
      have w3 : IntKind.i64.wrap (x + p) = x + p := IntWalk.i64_in _ (by omega)
      have w4 : IntKind.i64.wrap (y + q) = y + q := IntWalk.i64_in _ (by omega)
      have w5 : IntKind.i64.wrap ((k : Int) + 1) = (k : Int) + 1 := IntWalk.i64_in _ (by omega)
      go_wp2
      ((refine wp_region_float (W := (w.alloc (.cells #[.slice none 0 0] 24))) 11 (by kernel_rfl) (by kernel_rfl) rfl rfl (by repeat (first | with_reducible (first | exact blA | exact blB | refine blC _ ?_ | refine blD ?_ ?_ _ | refine blE ?_ | refine blF _ ?_ | refine blG ?_ _ | refine blH ?_ | refine blI ?_ ?_ _) | (simp only [World.size_alloc]; omega) | (simp <;> omega))) ?_); simp only [List.take_succ_cons, List.take_zero, List.drop_succ_cons, List.drop_zero]; (repeat' (first | go_big_quiet_step (fail) | ((refine wpQuiet_guard rfl rfl rfl rfl (fun hg => ?_) (fun hg => ?_)) <;> (fail_if_success (first | guard_hyp hg : true = true | guard_hyp hg : false = false)) <;> (try simp only [decide_eq_true_eq, decide_eq_false_iff_not] at hg) <;> simp only [Act.put, List.setIfInBounds_toArray, List.set_cons_zero, List.set_cons_succ]))); all_goals ((with_reducible refine wpQuiet_nil ?_); intro zq hz))
      go_wp2_with (at_builtin; refine wpList_app _ rfl _ _ 73 rfl encPt_len (by decide) oneP (w.alloc (.cells #[.slice none 0 0] 24)).heap.size 38 (.agg #[.int .i64 0, .int .i64 0]) 16 infoCell rfl Try.underlying73 _ _ _ _ rfl ((own_below HO.out.own hz).alloc _) _ _ _ rfl (rd_one _ encPt_len _ (x + p, y + q) _ rfl) ?c1 (by decide) ?c2 ?_; (case c1 => (first | (simp only [List.length_append, List.length_cons, List.length_nil]; omega) | omega | (simp; omega))); (case c2 => exact (by repeat (first | with_reducible exact Nat.le_refl _ | assumption | with_reducible refine le_alloc ?_ _ | with_reducible refine le_drew ?_ | with_reducible refine Kin.le _ ?_ | assumption | omega | (simp only [World.size_alloc]; omega)))); intro v' w1 hown' hg hbel hat'; (obtain ⟨y, rfl⟩ : ∃ y : Kin (w.alloc (.cells #[.slice none 0 0] 24)), y.1 = w1 := ⟨⟨w1, Below.trans (by repeat (first | with_reducible (first | exact blA | exact blB | refine blC _ ?_ | refine blD ?_ ?_ _ | refine blE ?_ | refine blF _ ?_ | refine blG ?_ _ | refine blH ?_ | refine blI ?_ ?_ _) | (simp only [World.size_alloc]; omega) | (simp <;> omega))) hbel⟩, rfl⟩); clear hbel hg hat')
      go_roundw
      case rel => exact ⟨k + 1, by omega, by go_num, Lib.hid (OwnC.of (by rw [HL.out]; exact hown')), y, rfl⟩
      case measure => simp [intOf]; omega
    · have ek : k = n := by omega
      subst ek
      have HRD := Lib.hid (show Rd 2 encPt z.1 _ (rectL x y wd k) from Rd.own encPt_len HO.out.own)
      have hl4 : (rectL x y wd k).length ≤ 1099511627776 := by rw [rectL_len]; omega
      go_wp2_with (go_at_call 68; (with_reducible refine (Kin.callK (W := (w.alloc (.cells #[.slice none 0 0] 24))) (by repeat (first | with_reducible (first | exact blA | exact blB | refine blC _ ?_ | refine blD ?_ ?_ _ | refine blE ?_ | refine blF _ ?_ | refine blG ?_ _ | refine blH ?_ | refine blI ?_ ?_ _) | (simp only [World.size_alloc]; omega) | (simp <;> omega))) (of18_any _ (rectL x y wd k) _ (HRD.out.below (by repeat (first | with_reducible (first | exact blA | exact blB | refine blC _ ?_ | refine blD ?_ ?_ _ | refine blE ?_ | refine blF _ ?_ | refine blG ?_ _ | refine blH ?_ | refine blI ?_ ?_ _) | (simp only [World.size_alloc]; omega) | (simp <;> omega)))) hl4)).mono ?_); rintro e w' ⟨z2, ⟨A, m, c, rfl, hr⟩, hz, rfl⟩; (have HR := Lib.hid hr; have HB := Lib.hid ((Blk.new w 24 #[.slice none 0 0]).below z2.2); have q0 : (Kin.wd z2).cell? ⟨w.heap.size, 0, none⟩ = some (.slice none 0 0) := HB.out.cell 0; have qf : (Kin.wd z2).frozen? ⟨w.heap.size, 0, none⟩ = false := HB.out.frozen 0; have ql := HB.out.lt; clear hr))
      ((try simp only [Exit.inBlock, Exit.then]); refine bodyPost_ret (results_cell_row rfl _ _ _ _ _ (0, 0) _ rfl ((HB.out.set_ 0 _).below (Below.alloc (Below.refl _ _) (Nat.le_refl _) _)) Try.underlying24 rfl (by kernel_rfl)) rfl ?_)
      exact ⟨⟨_, _, _, rfl, (HR.out.set_ HB.out).below (Below.alloc (Below.refl _ _) (Nat.le_refl _) _)⟩, (by repeat (first | with_reducible (first | exact blA | exact blB | refine blC _ ?_ | refine blD ?_ ?_ _ | refine blE ?_ | refine blF _ ?_ | refine blG ?_ _ | refine blH ?_ | refine blI ?_ ?_ _) | (simp only [World.size_alloc]; omega) | (simp <;> omega)))⟩
end Go.Proofs.Ytjppaknajdbkgaa

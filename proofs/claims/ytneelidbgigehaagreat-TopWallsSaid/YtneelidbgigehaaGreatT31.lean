/- Lemmas: RegSweep. -/
import Derived.Test.YtneelidbgigehaaGreatT08
import Derived.Test.YtneelidbgigehaaGreatT06
/- The chapter's operation on the runs of a row. -/
namespace Go.Proofs.YtneelidbgigehaaGreat
set_option linter.unusedSimpArgs false
set_option linter.unusedVariables false
open Go.RowKit Runs Reg
attribute [local go_sem] Kin.cell Kin.frozen Kin.lt0 Kin.lt1 Kin.lt2 Kin.lt3 run_mkf
/-- the number of an operation in the text of the regions -/
def code (n : Int) : Int := if n = 0 then 2 else if n = 1 then 1 else 0
def OwnR (base : Nat) (W : World) (v : Value) (l : List Run) : Prop := W.ownsRow base 69 2 v l.length (l.flatMap encRun)
theorem OwnR.own {base : Nat} {W : World} {v : Value} {l : List Run} (h : OwnR base W v l) : W.ownsRow base 69 2 v l.length (l.flatMap encRun) := h
theorem OwnR.nil {base : Nat} {W : World} : OwnR base W (.slice none 0 0) [] := World.ownsRow_nil _ _ _ _
theorem OwnR.below {base : Nat} {W W' : World} {v : Value} {l : List Run} (h : OwnR base W v l) (hb : Below W.heap.size W W') : OwnR base W' v l := own_below h.own hb
theorem kept_is {b : Bool} (n : Int) (x y : Bool) (w : World) (hn : n = 0 ∨ n = 1 ∨ n = 2) (h : opf (code n) x y = b) :
    Calls Tryz.prog 116 #[.int .i64 n, .bool x, .bool y] w fun e w' => e = .returned (.bool b) ∧ Below w.heap.size w w' := by subst h; exact kept_any n x y w hn
theorem dStep_same {P : Int → Bool} {L : List Int} {k : Nat} {r s : Int} (hr : L[k]? = some r) (hs : L[k + 1]? = some s) (h : r = s) : dTo P L (k + 1) = dTo P L k := by
  rw [dTo_succ, at_some hr, at_some hs, dStep, if_pos h]
theorem dStep_no {P : Int → Bool} {L : List Int} {k : Nat} {r s : Int} (hr : L[k]? = some r) (hs : L[k + 1]? = some s) (h : P r = false) : dTo P L (k + 1) = dTo P L k := by
  rw [dTo_succ, at_some hr, at_some hs, dStep, h]; split <;> rfl
theorem dStep_yes {P : Int → Bool} {L : List Int} {k : Nat} {r s : Int} (hr : L[k]? = some r) (hs : L[k + 1]? = some s) (h0 : r ≠ s) (h : P r = true) : dTo P L (k + 1) = put (dTo P L k) r s := by
  rw [dTo_succ, at_some hr, at_some hs, dStep, if_neg h0, h]; rfl
set_option maxRecDepth 100000 in
set_option maxHeartbeats 8000000 in
theorem combined_any (v u : Value) (a b : List Run) (n : Int) (hn : n = 0 ∨ n = 1 ∨ n = 2) (w : World) (h : Rd 2 encRun w v a) (h' : Rd 2 encRun w u b) (sa : SepIn a) (sb : SepIn b) :
    Calls Tryz.prog 77 #[.int .i64 n, v, u] w fun e w' => (∃ r, e = .returned r ∧ OwnR w.heap.size w' r (Runs.choose (opf (code n)) a b)) ∧ Below w.heap.size w w' := by
  have HA := Lib.hid h
  have HB := Lib.hid h'
  have la := sepIn_len sa
  have lb := sepIn_len sb
  have SA := Lib.hid sa.1
  have SB := Lib.hid sb.1
  clear h h' sa sb
  go_enter Tryz.func77, Tryz.ntmps77
  go_wp2_with (go_at_call 115; (with_reducible refine (Kin.callK (W := w) gRw (bounds18_any _ _ a b _ (HA.out.below gRw) (HB.out.below gRw) (by omega) (by omega))).mono ?_); rintro e w' ⟨z0, ⟨C, L, rfl, hl, hp, hs⟩, hz0, rfl⟩; (have HCH := Lib.hid (dTo_choose (f := opf (code n)) SA.out SB.out hp hs); have hLl : L.length ≤ 32768 := (by have h := hp.length_eq; rw [List.length_append, bl_len, bl_len] at h; omega); have HA := Lib.hid (HA.out.below hz0); have HB := Lib.hid (HB.out.below hz0); clear hp hs))
  obtain ⟨P, hP⟩ : ∃ P : Int → Bool, P = fun x => opf (code n) (mem a x) (mem b x) := ⟨_, rfl⟩
  rw [← hP] at HCH
  have HP := Lib.hid (fun x => congrFun hP x)
  clear hP
  obtain ⟨C, capC, rfl, hcapC, hopC⟩ := hl.open_
  have HC := Lib.hid hopC
  have HLC := Lib.hid hl
  clear hopC hl
  go_loopw [8, 9] (fun o i wr => ∃ k : Nat, (k + 1 ≤ L.length ∨ k = 0) ∧ i = .int .i64 k ∧ Hid (OwnR z0.1.heap.size wr o (dTo P L k)) ∧ Hid (Below z0.1.heap.size z0.1 wr)) (fun _ i _ => L.length - (intOf i).toNat)
  case atStart => exact ⟨0, .inr rfl, rfl, Lib.hid OwnR.nil, Lib.hid (Below.refl _ _)⟩
  case round =>
    obtain ⟨k, hk, rfl, HO, hyB⟩ := hrel
    obtain ⟨y, rfl⟩ : ∃ y : Kin z0.1, y.1 = wr := ⟨⟨wr, hyB.out⟩, rfl⟩
    clear hyB
    by_cases hlt : k + 1 < L.length
    · obtain ⟨r, hr⟩ : ∃ el_, (L)[k]? = some el_ := ⟨_, List.getElem?_eq_getElem (by first | exact (by omega) | omega)⟩
      obtain ⟨bC, offC, rfl, hbC, hcC⟩ := HC.out (k) _ hr
      have r_0 : z0.1.cell? ⟨bC, offC + k, none⟩ = some (.int .i64 r) := by have := hcC (k) _ hr 0 _ rfl; simpa using this
      have hbC2 : bC < z0.1.heap.size + 1 := by omega
      have HCc := Lib.hid hcC
      have Hr := Lib.hid hr
      clear hr hcC
      obtain ⟨s, hs⟩ : ∃ el_, (L)[k + 1]? = some el_ := ⟨_, List.getElem?_eq_getElem (by first | exact hlt | omega)⟩
      have s_0 : z0.1.cell? ⟨bC, offC + (k + 1), none⟩ = some (.int .i64 s) := by have := HCc.out (k + 1) _ hs 0 _ rfl; simpa using this
      have Hs := Lib.hid hs
      clear hs
      have hlt0 : k < L.length := by omega
      have hw1 : IntKind.i64.wrap ((k : Int) + 1) = (k : Int) + 1 := IntWalk.i64_in _ (by omega)
      have hw2 : 0 ≤ (k : Int) + 1 := by omega
      have hw3 : ((k : Int) + 1).toNat = k + 1 := by omega
      by_cases hrs : r = s
      · have hb1 : (r == s) = true := by simp [hrs]
        have HN := Lib.hid (dStep_same (P := P) Hr.out Hs.out hrs)
        clear hrs
        go_wp2
        ((refine wp_region_kinK (W := (Kin.wd z0)) (by kernel_rfl) (by kernel_rfl) gRw ?_); (repeat' (first | go_big_quiet_step (fail) | ((refine wpQuiet_guard rfl rfl rfl rfl (fun hg => ?_) (fun hg => ?_)) <;> (fail_if_success (first | guard_hyp hg : true = true | guard_hyp hg : false = false)) <;> (try simp only [decide_eq_true_eq, decide_eq_false_iff_not] at hg) <;> simp only [Act.put, List.setIfInBounds_toArray, List.set_cons_zero, List.set_cons_succ]))); all_goals ((with_reducible refine wpQuiet_nil ?_); intro zq hz))
        go_wp2
        go_roundw
        case rel => exact ⟨k + 1, by omega, by go_num, Lib.hid (by rw [HN.out]; exact HO.out.below hz), Lib.hid zq.2⟩
        case measure => simp [intOf]; omega
      · have hb1 : (r == s) = false := by simp [hrs]
        cases hpr : P r
        · have HN := Lib.hid (dStep_no Hr.out Hs.out hpr)
          go_wp2
          ((refine wp_region_kinK (W := (Kin.wd z0)) (by kernel_rfl) (by kernel_rfl) gRw ?_); (repeat' (first | go_big_quiet_step (first | (go_at_call 117; exact Kin.quiet _ (inside18_any _ a r _ (HA.out.below gRw) (by omega))) | (go_at_call 117; exact Kin.quiet _ (inside18_any _ b r _ (HB.out.below gRw) (by omega))) | (go_at_call 116; exact Kin.quiet _ (kept_is n _ _ _ hn ((HP.out r).symm.trans hpr)))) | ((refine wpQuiet_guard rfl rfl rfl rfl (fun hg => ?_) (fun hg => ?_)) <;> (fail_if_success (first | guard_hyp hg : true = true | guard_hyp hg : false = false)) <;> (try simp only [decide_eq_true_eq, decide_eq_false_iff_not] at hg) <;> simp only [Act.put, List.setIfInBounds_toArray, List.set_cons_zero, List.set_cons_succ]))); all_goals ((with_reducible refine wpQuiet_nil ?_); intro zq hz))
          go_wp2
          go_roundw
          case rel => exact ⟨k + 1, by omega, by go_num, Lib.hid (by rw [HN.out]; exact HO.out.below hz), Lib.hid zq.2⟩
          case measure => simp [intOf]; omega
        · have HN := Lib.hid (dStep_yes Hr.out Hs.out hrs hpr)
          have hEl := dTo_len P L k
          have HAy := Lib.hid (HA.out.below y.2)
          have HBy := Lib.hid (HB.out.below y.2)
          have r_0' := (y.cell hbC).trans r_0
          have s_0' := (y.cell hbC).trans s_0
          have hbCy := y.lt0 hbC
          generalize hG : dTo P L k = E0 at *
          rcases List.eq_nil_or_concat E0 with rfl | ⟨E, q, hE⟩
          · obtain ⟨D, capD, rfl, hcapD, _⟩ := (Rd.own encRun_len HO.out.own).open_
            simp only [List.length_nil] at HO hcapD ⊢
            go_wp2
            ((refine wp_region_kinK (W := (Kin.wd y)) (by kernel_rfl) (by kernel_rfl) gRw ?_); (repeat' (first | go_big_quiet_step (first | (go_at_call 117; exact Kin.quiet _ (inside18_any _ a r _ (HAy.out.below gRw) (by omega))) | (go_at_call 117; exact Kin.quiet _ (inside18_any _ b r _ (HBy.out.below gRw) (by omega))) | (go_at_call 116; exact Kin.quiet _ (kept_is n _ _ _ hn ((HP.out r).symm.trans hpr)))) | ((refine wpQuiet_guard rfl rfl rfl rfl (fun hg => ?_) (fun hg => ?_)) <;> (fail_if_success (first | guard_hyp hg : true = true | guard_hyp hg : false = false)) <;> (try simp only [decide_eq_true_eq, decide_eq_false_iff_not] at hg) <;> simp only [Act.put, List.setIfInBounds_toArray, List.set_cons_zero, List.set_cons_succ]))); all_goals ((with_reducible refine wpQuiet_nil ?_); intro zq hz))
            go_wp2
            ((refine wp_region_kinK (W := (Kin.wd y)) (by kernel_rfl) (by kernel_rfl) gRw ?_); (repeat' (first | go_big_quiet_step (fail) | ((refine wpQuiet_guard rfl rfl rfl rfl (fun hg => ?_) (fun hg => ?_)) <;> (fail_if_success (first | guard_hyp hg : true = true | guard_hyp hg : false = false)) <;> (try simp only [decide_eq_true_eq, decide_eq_false_iff_not] at hg) <;> simp only [Act.put, List.setIfInBounds_toArray, List.set_cons_zero, List.set_cons_succ]))); all_goals ((with_reducible refine wpQuiet_nil ?_); intro zq hz))
            go_wp2
            ((refine wp_region_float (W := (Kin.wd y)) 10 (by kernel_rfl) (by kernel_rfl) rfl rfl gRw ?_); simp only [List.take_succ_cons, List.take_zero, List.drop_succ_cons, List.drop_zero]; (repeat' (first | go_big_quiet_step (fail) | ((refine wpQuiet_guard rfl rfl rfl rfl (fun hg => ?_) (fun hg => ?_)) <;> (fail_if_success (first | guard_hyp hg : true = true | guard_hyp hg : false = false)) <;> (try simp only [decide_eq_true_eq, decide_eq_false_iff_not] at hg) <;> simp only [Act.put, List.setIfInBounds_toArray, List.set_cons_zero, List.set_cons_succ]))); all_goals ((with_reducible refine wpQuiet_nil ?_); intro zq hz))
            go_wp2_with (at_builtin; refine wpList_app _ rfl _ _ 42 rfl encRun_len (by decide) oneR z0.1.heap.size 69 (.agg #[.int .i64 0, .int .i64 0]) 16 infoRun rfl Tryz.underlying42 _ _ _ _ rfl ((own_below HO.out.own zq.2).alloc _) _ _ _ rfl (rd_one _ encRun_len _ (r, s) _ rfl) ?c1 (by decide) ?c2 ?_; (case c1 => (first | (simp only [List.length_append, List.length_cons, List.length_nil]; omega) | omega | (simp; omega))); (case c2 => exact lEw); intro v' w1 hown' hg hbel hat'; skip)
            have hb1 : Below z0.1.heap.size z0.1 zq.1 := y.2.trans (zq.2.mono y.2.size)
            go_roundw
            case rel => exact ⟨k + 1, by omega, by go_num, Lib.hid (by rw [HN.out]; exact hown'), Lib.hid ((Below.alloc hb1 hb1.size _).trans hbel)⟩
            case measure => simp [intOf]; omega
          · rw [List.concat_eq_append] at hE
            subst hE
            have h := HO.out.own
            rcases id h.2 with ⟨_, h0⟩ | ⟨g, cap1, cur, rfl, hbase, hgb, hn1, hm1, hs1, ht1⟩
            · simp at h0
            · have hg : g < y.1.heap.size := (Array.getElem?_eq_some_iff.1 hgb).1
              have g0 : y.1.cell? ⟨g, E.length * 2, none⟩ = some (.int .i64 q.1) := by rw [h.cellAt _ (by rw [List.length_append]; simp only [List.length_cons, List.length_nil]; omega)]; exact flat_get encRun_len _ E.length q (by simp) 0 _ rfl
              have g1 : y.1.cell? ⟨g, E.length * 2 + 1, none⟩ = some (.int .i64 q.2) := by rw [h.cellAt _ (by rw [List.length_append]; simp only [List.length_cons, List.length_nil]; omega)]; exact flat_get encRun_len _ E.length q (by simp) 1 _ rfl
              have f1 : y.1.frozen? ⟨g, E.length * 2 + 1, none⟩ = false := h.frozenAt _
              clear h hgb hs1 ht1
              obtain ⟨m, hm⟩ : ∃ m, m = E.length := ⟨_, rfl⟩
              have hl : (E ++ [q]).length = m + 1 := by simp [hm]
              rw [← hm] at g0 g1 f1
              have HO2 : Hid (y.1.ownsRow z0.1.heap.size 69 2 (.slice (some ⟨g, 0, none⟩) (m + 1) cap1) (m + 1) ((E ++ [q]).flatMap encRun)) := Lib.hid (by have := HO.out.own; rw [hl] at this; exact this)
              rw [hl] at hn1 hEl ⊢
              have Hm := Lib.hid hm
              have hm2 : E.length ≤ m := by omega
              clear hm hl HO
              have hmi1 : IntKind.i64.wrap ((m : Int) + 1 - 1) = (m : Int) + 1 - 1 := IntWalk.i64_in _ (by omega)
              by_cases hq : q.2 = r
              · have hq2 : (q.2 == r) = true := by simp [hq]
                go_wp2
                ((refine wp_region_kinK (W := (Kin.wd y)) (by kernel_rfl) (by kernel_rfl) gRw ?_); (repeat' (first | go_big_quiet_step (first | (go_at_call 117; exact Kin.quiet _ (inside18_any _ a r _ (HAy.out.below gRw) (by omega))) | (go_at_call 117; exact Kin.quiet _ (inside18_any _ b r _ (HBy.out.below gRw) (by omega))) | (go_at_call 116; exact Kin.quiet _ (kept_is n _ _ _ hn ((HP.out r).symm.trans hpr)))) | ((refine wpQuiet_guard rfl rfl rfl rfl (fun hg => ?_) (fun hg => ?_)) <;> (fail_if_success (first | guard_hyp hg : true = true | guard_hyp hg : false = false)) <;> (try simp only [decide_eq_true_eq, decide_eq_false_iff_not] at hg) <;> simp only [Act.put, List.setIfInBounds_toArray, List.set_cons_zero, List.set_cons_succ]))); all_goals ((with_reducible refine wpQuiet_nil ?_); intro zq hz))
                go_wp2
                ((refine wp_region_kinK (W := (Kin.wd y)) (by kernel_rfl) (by kernel_rfl) gRw ?_); (repeat' (first | go_big_quiet_step (fail) | ((refine wpQuiet_guard rfl rfl rfl rfl (fun hg => ?_) (fun hg => ?_)) <;> (fail_if_success (first | guard_hyp hg : true = true | guard_hyp hg : false = false)) <;> (try simp only [decide_eq_true_eq, decide_eq_false_iff_not] at hg) <;> simp only [Act.put, List.setIfInBounds_toArray, List.set_cons_zero, List.set_cons_succ]))); all_goals ((with_reducible refine wpQuiet_nil ?_); intro zq hz))
                go_wp2
                have hb1 : Below z0.1.heap.size z0.1 zq.1 := y.2.trans (zq.2.mono y.2.size)
                have e : put (E ++ [q]) r s = E ++ [(q.1, s)] := by rw [← hq, put_yes]
                have hst := ((own_below HO2.out zq.2).stored (m * 2 + 1) (.int .i64 s)).1
                rw [Hm.out, set_last, ← Hm.out] at hst
                go_roundw
                case rel => exact ⟨k + 1, by omega, by go_num, Lib.hid (by rw [HN.out, e]; unfold OwnR; rw [show (E ++ [(q.1, s)]).length = m + 1 by simp [Hm.out]]; exact hst), Lib.hid (Below.setCell hb1 hbase _)⟩
                case measure => simp [intOf]; omega
              · have hq2 : (q.2 == r) = false := by simp [hq]
                go_wp2
                ((refine wp_region_kinK (W := (Kin.wd y)) (by kernel_rfl) (by kernel_rfl) gRw ?_); (repeat' (first | go_big_quiet_step (first | (go_at_call 117; exact Kin.quiet _ (inside18_any _ a r _ (HAy.out.below gRw) (by omega))) | (go_at_call 117; exact Kin.quiet _ (inside18_any _ b r _ (HBy.out.below gRw) (by omega))) | (go_at_call 116; exact Kin.quiet _ (kept_is n _ _ _ hn ((HP.out r).symm.trans hpr)))) | ((refine wpQuiet_guard rfl rfl rfl rfl (fun hg => ?_) (fun hg => ?_)) <;> (fail_if_success (first | guard_hyp hg : true = true | guard_hyp hg : false = false)) <;> (try simp only [decide_eq_true_eq, decide_eq_false_iff_not] at hg) <;> simp only [Act.put, List.setIfInBounds_toArray, List.set_cons_zero, List.set_cons_succ]))); all_goals ((with_reducible refine wpQuiet_nil ?_); intro zq hz))
                go_wp2
                ((refine wp_region_kinK (W := (Kin.wd y)) (by kernel_rfl) (by kernel_rfl) gRw ?_); (repeat' (first | go_big_quiet_step (fail) | ((refine wpQuiet_guard rfl rfl rfl rfl (fun hg => ?_) (fun hg => ?_)) <;> (fail_if_success (first | guard_hyp hg : true = true | guard_hyp hg : false = false)) <;> (try simp only [decide_eq_true_eq, decide_eq_false_iff_not] at hg) <;> simp only [Act.put, List.setIfInBounds_toArray, List.set_cons_zero, List.set_cons_succ]))); all_goals ((with_reducible refine wpQuiet_nil ?_); intro zq hz))
                go_wp2
                ((refine wp_region_float (W := (Kin.wd y)) 10 (by kernel_rfl) (by kernel_rfl) rfl rfl gRw ?_); simp only [List.take_succ_cons, List.take_zero, List.drop_succ_cons, List.drop_zero]; (repeat' (first | go_big_quiet_step (fail) | ((refine wpQuiet_guard rfl rfl rfl rfl (fun hg => ?_) (fun hg => ?_)) <;> (fail_if_success (first | guard_hyp hg : true = true | guard_hyp hg : false = false)) <;> (try simp only [decide_eq_true_eq, decide_eq_false_iff_not] at hg) <;> simp only [Act.put, List.setIfInBounds_toArray, List.set_cons_zero, List.set_cons_succ]))); all_goals ((with_reducible refine wpQuiet_nil ?_); intro zq hz))
                go_wp2_with (at_builtin; refine wpList_app _ rfl _ _ 42 rfl encRun_len (by decide) oneR z0.1.heap.size 69 (.agg #[.int .i64 0, .int .i64 0]) 16 infoRun rfl Tryz.underlying42 _ _ _ _ rfl ((own_below HO2.out zq.2).alloc _) _ _ _ rfl (rd_one _ encRun_len _ (r, s) _ rfl) ?c1 (by decide) ?c2 ?_; (case c1 => (first | (simp only [List.length_append, List.length_cons, List.length_nil]; omega) | omega | (simp; omega))); (case c2 => exact lEw); intro v' w1 hown' hg hbel hat'; skip)
                have hb1 : Below z0.1.heap.size z0.1 zq.1 := y.2.trans (zq.2.mono y.2.size)
                go_roundw
                case rel => exact ⟨k + 1, by omega, by go_num, Lib.hid (by rw [HN.out, put_no hq]; exact hown'), Lib.hid ((Below.alloc hb1 hb1.size _).trans hbel)⟩
                case measure => simp [intOf]; omega
    · go_wp2
      go_ret
      have ek : k = L.length - 1 := by omega
      refine ⟨⟨_, rfl, ?_⟩, gRw⟩
      rw [← HCH.out, ← ek]
      exact own_base HO.out.own z0.2.size
end Go.Proofs.YtneelidbgigehaaGreat

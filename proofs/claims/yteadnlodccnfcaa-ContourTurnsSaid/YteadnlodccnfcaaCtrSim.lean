/- slices.Delete of one point, slices.Clone, straight: walked. -/
import Derived.Test.YteadnlodccnfcaaCtrDel
namespace Go.Proofs.Yteadnlodccnfcaa
set_option linter.unusedSimpArgs false
set_option linter.unusedVariables false
set_option maxRecDepth 100000
open Go.RowKit Planar
attribute [local go_sem] Kin.cell Kin.frozen Kin.lt0 Kin.lt1 Kin.lt2 Kin.lt3 run_mkf
theorem wpList_apprun {P : Program} (w : World) {ops : Array Oper} {rest : List Oper} {o : Oper} {a : Act} {Q : Exit → Act → World → Prop} (hgd : o.guard = none) (s x : Operand) (t : TypeId)
    (ho : o.op = .call { callee := .builtin .append, args := #[s, x], argTypes := #[t, t] }) (v u : Value) (hs : a.eval s = v) (hx : a.eval x = u) (v' : Value) (w' : World) (hrun : ∀ ty : TypeId, (Builtin.append_ #[t, t] ty #[v, u]).run P w = .ok v' w')
    (hK : wpList P ops Q rest (a.put o.dst v') w') : wpList P ops Q (o :: rest) a w := by
  refine wpList_plain hgd fun K' hK' => ?_
  unfold Oper.wp execOp
  simp only [ho, resolve, invoke, builtin, Sem.run_bind, Sem.run_pure, Result.andThen_ok, List.map_toArray, List.map_cons, List.map_nil, hs, hx, hrun]
  exact hK' _ _ hK
theorem wpList_clrrun {P : Program} (w : World) {ops : Array Oper} {rest : List Oper} {o : Oper} {a : Act} {Q : Exit → Act → World → Prop} (hgd : o.guard = none) (s : Operand) (t : TypeId)
    (ho : o.op = .call { callee := .builtin .clear, args := #[s], argTypes := #[t] }) (v : Value) (hs : a.eval s = v) (w' : World) (hrun : ∀ ty : TypeId, (Builtin.clear_ #[t] ty #[v]).run P w = .ok (.tuple #[]) w')
    (hK : wpList P ops Q rest (a.put o.dst (.tuple #[])) w') : wpList P ops Q (o :: rest) a w := by
  refine wpList_plain hgd fun K' hK' => ?_
  unfold Oper.wp execOp
  simp only [ho, resolve, invoke, builtin, Sem.run_bind, Sem.run_pure, Result.andThen_ok, List.map_toArray, List.map_cons, List.map_nil, hs, hrun]
  exact hK' _ _ hK
/-- the tail's clearing: what the call owns ahead of it stays -/
theorem clear_tail (w : World) (base g n cap : Nat) (xs : List Value) (h : w.ownsRow base 36 2 (.slice (some ⟨g, 0, none⟩) (n - 1) cap) (n - 1) xs) (hn : 0 < n) (hc : n ≤ cap) (m c : Nat) (hm : m = 1) :
    ∃ w', (∀ ty : TypeId, (Builtin.clear_ #[40] ty #[.slice (some ⟨g, (n - 1) * 2, none⟩) m c]).run Try.prog w = .ok (.tuple #[]) w') ∧ w'.ownsRow base 36 2 (.slice (some ⟨g, 0, none⟩) (n - 1) cap) (n - 1) xs ∧ w.grownBy w' (some g) := by
  subst hm
  obtain ⟨ys, h1, h2⟩ := own_widen h (m := n) (by omega) hc
  obtain ⟨vs, hcl⟩ := run_clear_pts w g ((n - 1) * 2) 1 c (by omega) (fun j hj => by obtain ⟨u, hu⟩ := own_some h1 ((n - 1) * 2 + j) (by omega); rw [hu]; rfl) (fun j hj => h1.frozenAt _)
  obtain ⟨⟨zs, h3, h4⟩, h5⟩ := own_setCells vs ((n - 1) * 2) w _ h1
  refine ⟨_, hcl, ?_, h5⟩
  have h6 := own_cut0 h3 (k := n - 1) (by omega)
  rw [h4, h2] at h6
  exact h6
set_option maxHeartbeats 8000000 in
theorem delete_any (w : World) (base g n cap i : Nat) (xs : List Pt) (h : w.ownsRow base 36 2 (.slice (some ⟨g, 0, none⟩) n cap) n (xs.flatMap encPt)) (hi : i < n) (hn : n ≤ 1000000) :
    Calls Try.prog 48 #[.slice (some ⟨g, 0, none⟩) n cap, .int .i64 i, .int .i64 ((i : Int) + 1)] w fun e w' => e = .returned (.slice (some ⟨g, 0, none⟩) (n - 1) cap) ∧ w'.ownsRow base 36 2 (.slice (some ⟨g, 0, none⟩) (n - 1) cap) (n - 1) ((xs.eraseIdx i).flatMap encPt) ∧ w.grownBy w' (some g) := by
  have hnc : n ≤ cap := by
    rcases h.2 with ⟨h', _⟩ | ⟨g', cap', cur, h', _, _, hnc, _⟩
    · simp at h'
    · simp only [Value.slice.injEq] at h'
      obtain ⟨_, _, rfl⟩ := h'
      exact hnc
  have HW := Lib.hid h
  clear h
  by_cases hl : i + 1 < n
  · have hii : ((i : Int) == (i : Int) + 1) = false := by rw [beq_eq_false_iff_ne]; omega
    go_enter Try.func48, Try.ntmps48
    go_wp2_with fail
    ((refine wp_region_tailK (W := w) 6 (by kernel_rfl) (by kernel_rfl) (by repeat (first | with_reducible (first | exact blA | exact blB | refine blC _ ?_ | refine blD ?_ ?_ _ | refine blE ?_ | refine blF _ ?_ | refine blG ?_ _ | refine blH ?_ | refine blI ?_ ?_ _) | (simp only [World.size_alloc]; omega) | (simp <;> omega))) ?_); simp only [List.take_succ_cons, List.take_zero, List.drop_succ_cons, List.drop_zero]; (repeat' (first | go_big_quiet_step (fail) | ((refine wpQuiet_guard rfl rfl rfl rfl (fun hg => ?_) (fun hg => ?_)) <;> (fail_if_success (first | guard_hyp hg : true = true | guard_hyp hg : false = false)) <;> (try simp only [decide_eq_true_eq, decide_eq_false_iff_not] at hg) <;> simp only [Act.put, List.setIfInBounds_toArray, List.set_cons_zero, List.set_cons_succ]))); all_goals ((with_reducible refine wpQuiet_nil ?_); intro zq hz))
    obtain ⟨w1, happ, ho1, hg1⟩ := run_del zq.1 base g n cap i xs (own_below HW.out zq.2) hi ⟨g, (i + 1) * 2, none⟩ (fun _ => rfl) (cap - (i + 1))
    have HO1 := Lib.hid ho1
    have HG1 := Lib.hid hg1
    clear ho1 hg1
    refine wpList_apprun zq.1 rfl _ _ _ rfl _ _ rfl rfl _ _ happ ?_
    clear happ
    obtain ⟨w2, hclr, ho2, hg2⟩ := clear_tail w1 base g n cap _ HO1.out (by omega) hnc (n - (n - 1)) (cap - (n - 1)) (by omega)
    go_wp2_with fail
    go_ret
    exact ⟨rfl, ho2, grownBy_trans (grownBy_trans (below_grownBy zq.2) HG1.out) hg2⟩
  · have hl2 : n = i + 1 := by omega
    subst hl2
    have hii : ((i : Int) == (i : Int) + 1) = false := by rw [beq_eq_false_iff_ne]; omega
    by_cases hcc : cap = i + 1
    · subst hcc
      go_enter Try.func48, Try.ntmps48
      go_wp2_with fail
      ((refine wp_region_tailK (W := w) 6 (by kernel_rfl) (by kernel_rfl) (by repeat (first | with_reducible (first | exact blA | exact blB | refine blC _ ?_ | refine blD ?_ ?_ _ | refine blE ?_ | refine blF _ ?_ | refine blG ?_ _ | refine blH ?_ | refine blI ?_ ?_ _) | (simp only [World.size_alloc]; omega) | (simp <;> omega))) ?_); simp only [List.take_succ_cons, List.take_zero, List.drop_succ_cons, List.drop_zero]; (repeat' (first | go_big_quiet_step (fail) | ((refine wpQuiet_guard rfl rfl rfl rfl (fun hg => ?_) (fun hg => ?_)) <;> (fail_if_success (first | guard_hyp hg : true = true | guard_hyp hg : false = false)) <;> (try simp only [decide_eq_true_eq, decide_eq_false_iff_not] at hg) <;> simp only [Act.put, List.setIfInBounds_toArray, List.set_cons_zero, List.set_cons_succ]))); all_goals ((with_reducible refine wpQuiet_nil ?_); intro zq hz))
      obtain ⟨w1, happ, ho1, hg1⟩ := run_del zq.1 base g (i + 1) (i + 1) i xs (own_below HW.out zq.2) hi ⟨g, 0, none⟩ (fun h => absurd h (Nat.lt_irrefl _)) (i + 1 - (i + 1))
      have HO1 := Lib.hid ho1
      have HG1 := Lib.hid hg1
      clear ho1 hg1
      simp only [Nat.sub_self, Nat.add_sub_cancel] at happ
      refine wpList_apprun zq.1 rfl _ _ _ rfl _ _ rfl rfl _ _ happ ?_
      clear happ
      obtain ⟨w2, hclr, ho2, hg2⟩ := clear_tail w1 base g (i + 1) (i + 1) _ HO1.out (by omega) (by omega) 1 1 rfl
      simp only [Nat.add_sub_cancel] at hclr
      go_wp2_with fail
      go_ret
      exact ⟨rfl, ho2, grownBy_trans (grownBy_trans (below_grownBy zq.2) HG1.out) hg2⟩
    · go_enter Try.func48, Try.ntmps48
      go_wp2_with fail
      ((refine wp_region_tailK (W := w) 6 (by kernel_rfl) (by kernel_rfl) (by repeat (first | with_reducible (first | exact blA | exact blB | refine blC _ ?_ | refine blD ?_ ?_ _ | refine blE ?_ | refine blF _ ?_ | refine blG ?_ _ | refine blH ?_ | refine blI ?_ ?_ _) | (simp only [World.size_alloc]; omega) | (simp <;> omega))) ?_); simp only [List.take_succ_cons, List.take_zero, List.drop_succ_cons, List.drop_zero]; (repeat' (first | go_big_quiet_step (fail) | ((refine wpQuiet_guard rfl rfl rfl rfl (fun hg => ?_) (fun hg => ?_)) <;> (fail_if_success (first | guard_hyp hg : true = true | guard_hyp hg : false = false)) <;> (try simp only [decide_eq_true_eq, decide_eq_false_iff_not] at hg) <;> simp only [Act.put, List.setIfInBounds_toArray, List.set_cons_zero, List.set_cons_succ]))); all_goals ((with_reducible refine wpQuiet_nil ?_); intro zq hz))
      obtain ⟨w1, happ, ho1, hg1⟩ := run_del zq.1 base g (i + 1) cap i xs (own_below HW.out zq.2) hi ⟨g, (i + 1) * 2, none⟩ (fun _ => rfl) (cap - (i + 1))
      have HO1 := Lib.hid ho1
      have HG1 := Lib.hid hg1
      clear ho1 hg1
      simp only [Nat.sub_self, Nat.add_sub_cancel] at happ
      refine wpList_apprun zq.1 rfl _ _ _ rfl _ _ rfl rfl _ _ happ ?_
      clear happ
      obtain ⟨w2, hclr, ho2, hg2⟩ := clear_tail w1 base g (i + 1) cap _ HO1.out (by omega) (by omega) 1 (cap - i) rfl
      simp only [Nat.add_sub_cancel] at hclr
      go_wp2_with fail
      go_ret
      exact ⟨rfl, ho2, grownBy_trans (grownBy_trans (below_grownBy zq.2) HG1.out) hg2⟩
end Go.Proofs.Yteadnlodccnfcaa

/- Lemmas: TrcTk. -/
import Derived.Deep.RegionLaw
import Derived.Deep.RegionHeld
import Derived.Test.YtneelidbgigehaaGreatT01
import Derived.Test.YtneelidbgigehaaGreatT04
import Derived.Test.YtneelidbgigehaaGreatT10
import Derived.Test.YtneelidbgigehaaGreatT11
/- slices.Delete of one direction: walked. (joined: TrcDel TrcMap TrcTake) -/
/- slices.Delete of one direction: walked. -/
namespace Go.Proofs.YtneelidbgigehaaGreat
set_option linter.unusedSimpArgs false
set_option linter.unusedVariables false
set_option maxRecDepth 100000
open Go.RowKit
attribute [local go_sem] Kin.cell Kin.frozen Kin.lt0 Kin.lt1 Kin.lt2 Kin.lt3 run_mkf
theorem infoHd : (Tryz.prog.info? 101).map (fun i => (i.zero, i.size, i.bytes)) = some (some (.int .i64 0), 1, 8) := by kernel_rfl
/-- the first k elements of what the call owns -/
theorem own_cut0 {size : Nat} {w : World} {base g n cap k : Nat} {e : TypeId} {xs : List Value} (h : w.ownsRow base e size (.slice (some ⟨g, 0, none⟩) n cap) n xs) (hn : k ≤ n) :
    w.ownsRow base e size (.slice (some ⟨g, 0, none⟩) k cap) k (xs.take (k * size)) := by
  have hx := h.1
  have hm := Nat.mul_le_mul_right size hn
  rcases h.2 with ⟨h', _⟩ | ⟨g', cap', cur, h', hb, hg, hnc, hcm, hcs, ht⟩
  · simp at h'
  · simp only [Value.slice.injEq, Option.some.injEq, Addr.mk.injEq, and_true, true_and] at h'
    obtain ⟨rfl, rfl⟩ := h'
    refine ⟨?_, .inr ⟨g, cap, cur, rfl, hb, hg, Nat.le_trans hn hnc, hcm, hcs, ?_⟩⟩
    · rw [List.length_take]; omega
    · rw [← ht, List.take_take, Nat.min_eq_left hm]
theorem take_flat {α : Type} {enc : α → List Value} {size : Nat} (hk : ∀ x, (enc x).length = size) (xs : List α) (k : Nat) (h : k ≤ xs.length) : (xs.flatMap enc).take (k * size) = (xs.take k).flatMap enc := by
  have e1 : xs.flatMap enc = (xs.take k).flatMap enc ++ (xs.drop k).flatMap enc := by rw [← List.flatMap_append, List.take_append_drop]
  have e2 : ((xs.take k).flatMap enc).length = k * size := by rw [flat_len hk]; simp; rw [Nat.min_eq_left (by omega)]
  rw [e1, List.take_append_of_le_length (by omega), ← e2, List.take_length]
theorem drop_flat {α : Type} {enc : α → List Value} {size : Nat} (hk : ∀ x, (enc x).length = size) (xs : List α) (k : Nat) (h : k ≤ xs.length) : (xs.flatMap enc).drop (k * size) = (xs.drop k).flatMap enc := by
  have e1 : xs.flatMap enc = (xs.take k).flatMap enc ++ (xs.drop k).flatMap enc := by rw [← List.flatMap_append, List.take_append_drop]
  have e2 : ((xs.take k).flatMap enc).length = k * size := by rw [flat_len hk]; simp; rw [Nat.min_eq_left (by omega)]
  rw [e1, ← e2, List.drop_left]
theorem own_setCells {base g n cap size : Nat} {e : TypeId} : ∀ (vs : List Value) (o : Nat) (w : World) (xs : List Value), w.ownsRow base e size (.slice (some ⟨g, 0, none⟩) n cap) n xs →
    (∃ xs', (w.setCells g o vs).ownsRow base e size (.slice (some ⟨g, 0, none⟩) n cap) n xs' ∧ xs'.take o = xs.take o) ∧ w.grownBy (w.setCells g o vs) (some g)
  | [], o, w, xs, h => ⟨⟨xs, h, rfl⟩, World.grownBy.refl _ _⟩
  | v :: r, o, w, xs, h => by
    obtain ⟨h1, h2⟩ := h.stored o v
    obtain ⟨⟨xs', h3, h4⟩, h5⟩ := own_setCells r (o + 1) _ _ h1
    refine ⟨⟨xs', h3, ?_⟩, ?_⟩
    · have := congrArg (List.take o) h4
      rw [List.take_take, List.take_take, Nat.min_eq_left (by omega), List.take_set_of_le (by omega)] at this
      exact this
    · exact ⟨h5.os.trans h2.os, h5.tape.trans h2.tape, h5.output.trans h2.output, Nat.le_trans h2.size h5.size, fun k hk hne => (h5.block k (Nat.lt_of_lt_of_le hk h2.size) hne).trans (h2.block k hk hne)⟩
/-- clear of points that the call owns -/
theorem run_clear_hds (w : World) (b o n c : Nat) (hn : 0 < n) (hc : ∀ j, j < n * 1 → (w.cell? ⟨b, o + j, none⟩).isSome = true) (hf : ∀ j, j < n * 1 → w.frozen? ⟨b, o + j, none⟩ = false) :
    ∃ vs : List Value, ∀ ty : TypeId, (Builtin.clear_ #[66] ty #[.slice (some ⟨b, o, none⟩) n c]).run Tryz.prog w = .ok (.tuple #[]) (w.setCells b o vs) := by
  refine ⟨(Builtin.zeroCells #[.int .i64 0] n).toList, fun ty => ?_⟩
  have hst := run_storeCells_cells (P := Tryz.prog) b o (Builtin.zeroCells #[.int .i64 0] n).toList 0 w (by simpa [Builtin.zeroCells] using hc) (by simpa [Builtin.zeroCells] using hf) (by
    intro v hv
    simp [Builtin.zeroCells] at hv
    obtain ⟨i, _, rfl⟩ := hv
    simp [Nat.mod_one]; rfl)
  simp only [Nat.add_zero] at hst
  obtain ⟨m, rfl⟩ : ∃ m, n = m + 1 := ⟨n - 1, by omega⟩
  simp [Builtin.clear_, run_underlying (Tryz.underlying66), Tryz.zeroValue101, Value.cells, hst]
/-- the row that a shorter slice lies over -/
theorem own_widen {size : Nat} {w : World} {base g n cap m : Nat} {e : TypeId} {xs : List Value} (h : w.ownsRow base e size (.slice (some ⟨g, 0, none⟩) n cap) n xs) (hn : n ≤ m) (hm : m ≤ cap) :
    ∃ ys, w.ownsRow base e size (.slice (some ⟨g, 0, none⟩) m cap) m ys ∧ ys.take (n * size) = xs := by
  rcases h.2 with ⟨h', _⟩ | ⟨g', cap', cur, h', hb, hg, hnc, hcm, hcs, ht⟩
  · simp at h'
  · simp only [Value.slice.injEq, Option.some.injEq, Addr.mk.injEq, and_true, true_and] at h'
    obtain ⟨rfl, rfl⟩ := h'
    have h1 := Nat.mul_le_mul_right size hm
    have h2 := Nat.mul_le_mul_right size hn
    refine ⟨cur.toList.take (m * size), ⟨?_, .inr ⟨g, cap, cur, rfl, hb, hg, hm, hcm, hcs, rfl⟩⟩, ?_⟩
    · rw [List.length_take, Array.length_toList, hcs]; omega
    · rw [List.take_take, Nat.min_eq_left h2, ht]
/-- append(s[:i], s[i+1:]...) of points that the call owns -/
theorem run_del (w : World) (base g n cap i : Nat) (xs : List Int) (h : w.ownsRow base 101 1 (.slice (some ⟨g, 0, none⟩) n cap) n (xs.flatMap encI)) (hi : i < n) (a : Addr) (ha : i + 1 < n → a = ⟨g, (i + 1) , none⟩) (c : Nat) :
    ∃ w', (∀ ty : TypeId, (Builtin.append_ #[66, 66] ty #[.slice (some ⟨g, 0, none⟩) i cap, .slice (some a) (n - (i + 1)) c]).run Tryz.prog w = .ok (.slice (some ⟨g, 0, none⟩) (n - 1) cap) w') ∧
      w'.ownsRow base 101 1 (.slice (some ⟨g, 0, none⟩) (n - 1) cap) (n - 1) ((xs.eraseIdx i).flatMap encI) ∧ w.grownBy w' (some g) := by
  have hx : xs.length = n := (own_len encI_len (by decide) h).symm
  obtain ⟨i0, hi0, hz0, hz1, hz2⟩ := info_parts infoHd
  have hrd : Rd 1 encI w (.slice (some ⟨g, 0, none⟩) n cap) xs := Rd.own' encI_len (by decide) h
  have hnews : ∀ j u, ((xs.drop (i + 1)).flatMap encI)[j]? = some u → w.cell? (a.add j) = some u := fun j u hu => by
    by_cases h0 : i + 1 < n
    · rw [ha h0, ← drop_flat encI_len xs (i + 1) (by omega), List.getElem?_drop] at *
      have := h.cells (g := g) rfl _ u hu
      have e1 : ((⟨g, (i + 1) , none⟩ : Addr).add j) = ((⟨g, 0, none⟩ : Addr).add ((i + 1) * 1 + j)) := by unfold Addr.add; split <;> split <;> simp_all
      rw [e1]; exact this
    · rw [List.drop_eq_nil_of_le (by omega)] at hu
      simp at hu
  have hlen : ((xs.drop (i + 1)).flatMap encI).length = (n - (i + 1)) * 1 := by rw [flat_len encI_len, List.length_drop, hx]
  have herase : (xs.eraseIdx i).flatMap encI = (xs.take i).flatMap encI ++ (xs.drop (i + 1)).flatMap encI := by rw [List.eraseIdx_eq_take_drop_succ, List.flatMap_append]
  rcases h.2 with ⟨h', _⟩ | ⟨g', cap', cur, h', hb, hg, hnc, hcm, hcs, ht⟩
  · simp at h'
  · simp only [Value.slice.injEq, Option.some.injEq, Addr.mk.injEq, and_true, true_and] at h'
    obtain ⟨rfl, rfl⟩ := h'
    have hr := fun ty => run_append_room (P := Tryz.prog) w 66 ty 101 i0 Tryz.underlying66 hi0 g i cap cur hg a (n - (i + 1)) c _ (by rw [hz1]; exact hlen) hnews (fun u hu => by
      obtain ⟨x, _, hx⟩ := List.mem_flatMap.1 hu
      exact oneI x u hx) (by omega) (by rw [hz1, hlen, hcs]; have := Nat.mul_le_mul_right 1 hnc; omega)
    rw [hz1] at hr
    have e0 : i + (n - (i + 1)) = n - 1 := by omega
    refine ⟨w.setRow g (cur.toList.take (i * 1) ++ (xs.drop (i + 1)).flatMap encI ++ cur.toList.drop (i * 1 + ((xs.drop (i + 1)).flatMap encI).length)).toArray, fun ty => by rw [← e0]; exact hr ty, ?_, ⟨rfl, rfl, rfl, by simp, fun k _ hk => setRow_other w g k _ (fun e => hk (by rw [e]))⟩⟩
    have hti : cur.toList.take (i * 1) = (xs.take i).flatMap encI := by
      rw [← take_flat encI_len xs i (by omega), ← ht, List.take_take, Nat.min_eq_left (by omega)]
    refine ⟨?_, .inr ⟨g, cap, _, rfl, hb, setRow_heap w g cur _ _ _ hg, by omega, hcm, ?_, ?_⟩⟩
    · rw [flat_len encI_len, List.length_eraseIdx, if_pos (by omega), hx]
    · simp only [List.size_toArray, List.length_append, List.length_take, List.length_drop, Array.length_toList]
      omega
    · rw [hti, ← herase]
      have : (n - 1) * 1 = ((xs.eraseIdx i).flatMap encI).length := by rw [flat_len encI_len, List.length_eraseIdx, if_pos (by omega), hx]
      rw [this]
      exact List.take_left
theorem wpList_apprun {P : Program} (w : World) {ops : Array Oper} {rest : List Oper} {o : Oper} {a : Act} {Q : Exit → Act → World → Prop} (hgd : o.guard = none) (s x : Operand) (t : TypeId)
    (ho : o.op = .call { callee := .builtin .append, args := #[s, x], argTypes := #[t, t] }) (v u : Value) (hs : a.eval s = v) (hx : a.eval x = u) (v' : Value) (w' : World) (hrun : ∀ ty : TypeId, (Builtin.append_ #[t, t] ty #[v, u]).run P w = .ok v' w')
    (hK : wpList P ops Q rest (a.put o.dst v') w') : wpList P ops Q (o :: rest) a w := by
  refine wpList_plain hgd fun K' hK' => ?_
  unfold Oper.wp execOp
  simp only [ho, resolve, invoke, builtin, Sem.run_bind, Sem.run_pure, Result.andThen_ok, List.map_toArray, List.map_cons, List.map_nil, hs, hx, hrun]
  exact hK' _ _ hK
/-- the tail's clearing: what the call owns ahead of it stays -/
theorem clear_tail (w : World) (base g n cap : Nat) (xs : List Value) (h : w.ownsRow base 101 1 (.slice (some ⟨g, 0, none⟩) (n - 1) cap) (n - 1) xs) (hn : 0 < n) (hc : n ≤ cap) (m c : Nat) (hm : m = 1) :
    ∃ w', (∀ ty : TypeId, (Builtin.clear_ #[66] ty #[.slice (some ⟨g, (n - 1) , none⟩) m c]).run Tryz.prog w = .ok (.tuple #[]) w') ∧ w'.ownsRow base 101 1 (.slice (some ⟨g, 0, none⟩) (n - 1) cap) (n - 1) xs ∧ w.grownBy w' (some g) := by
  subst hm
  obtain ⟨ys, h1, h2⟩ := own_widen h (m := n) (by omega) hc
  obtain ⟨vs, hcl⟩ := run_clear_hds w g (n - 1) 1 c (by omega) (fun j hj => by obtain ⟨u, hu⟩ := own_some h1 (n - 1 + j) (by omega); rw [hu]; rfl) (fun j hj => h1.frozenAt _)
  obtain ⟨⟨zs, h3, h4⟩, h5⟩ := own_setCells vs (n - 1) w _ h1
  refine ⟨_, hcl, ?_, h5⟩
  have h6 := own_cut0 h3 (k := n - 1) (by omega)
  rw [Nat.mul_one] at h6 h2
  rw [h4, h2] at h6
  exact h6
set_option maxHeartbeats 8000000 in
theorem delete_any (w : World) (base g n cap i : Nat) (xs : List Int) (h : w.ownsRow base 101 1 (.slice (some ⟨g, 0, none⟩) n cap) n (xs.flatMap encI)) (hi : i < n) (hn : n ≤ 1000000) :
    Calls Tryz.prog 104 #[.slice (some ⟨g, 0, none⟩) n cap, .int .i64 i, .int .i64 ((i : Int) + 1)] w fun e w' => e = .returned (.slice (some ⟨g, 0, none⟩) (n - 1) cap) ∧ w'.ownsRow base 101 1 (.slice (some ⟨g, 0, none⟩) (n - 1) cap) (n - 1) ((xs.eraseIdx i).flatMap encI) ∧ w.grownBy w' (some g) := by
  have hnc : n ≤ cap := by
    rcases h.2 with ⟨h', _⟩ | ⟨g', cap', cur, h', _, _, hnc, _⟩
    · simp at h'
    · simp only [Value.slice.injEq] at h'
      obtain ⟨_, _, rfl⟩ := h'
      exact hnc
  have HW := Lib.hid h
  clear h
  by_cases hl : i + 1 < n
  · have hii : ((i : Int) == (i : Int) + 1) = false := by rw [beq_eq_false_iff_ne]; omega
    go_enter Tryz.func104, Tryz.ntmps104
    go_wp2_with fail
    ((refine wp_region_tailK (W := w) 6 (by kernel_rfl) (by kernel_rfl) gRw ?_); simp only [List.take_succ_cons, List.take_zero, List.drop_succ_cons, List.drop_zero]; (repeat' (first | go_big_quiet_step (fail) | ((refine wpQuiet_guard rfl rfl rfl rfl (fun hg => ?_) (fun hg => ?_)) <;> (fail_if_success (first | guard_hyp hg : true = true | guard_hyp hg : false = false)) <;> (try simp only [decide_eq_true_eq, decide_eq_false_iff_not] at hg) <;> simp only [Act.put, List.setIfInBounds_toArray, List.set_cons_zero, List.set_cons_succ]))); all_goals ((with_reducible refine wpQuiet_nil ?_); intro zq hz))
    obtain ⟨w1, happ, ho1, hg1⟩ := run_del zq.1 base g n cap i xs (own_below HW.out zq.2) hi ⟨g, (i + 1) , none⟩ (fun _ => rfl) (cap - (i + 1))
    have HO1 := Lib.hid ho1
    have HG1 := Lib.hid hg1
    clear ho1 hg1
    refine wpList_apprun zq.1 rfl _ _ _ rfl _ _ rfl rfl _ _ happ ?_
    clear happ
    obtain ⟨w2, hclr, ho2, hg2⟩ := clear_tail w1 base g n cap _ HO1.out (by omega) hnc (n - (n - 1)) (cap - (n - 1)) (by omega)
    go_wp2_with fail
    go_ret
    exact ⟨rfl, ho2, grownBy_trans (grownBy_trans (below_grownBy zq.2) HG1.out) hg2⟩
  · have hl2 : n = i + 1 := by omega
    subst hl2
    have hii : ((i : Int) == (i : Int) + 1) = false := by rw [beq_eq_false_iff_ne]; omega
    by_cases hcc : cap = i + 1
    · subst hcc
      go_enter Tryz.func104, Tryz.ntmps104
      go_wp2_with fail
      ((refine wp_region_tailK (W := w) 6 (by kernel_rfl) (by kernel_rfl) gRw ?_); simp only [List.take_succ_cons, List.take_zero, List.drop_succ_cons, List.drop_zero]; (repeat' (first | go_big_quiet_step (fail) | ((refine wpQuiet_guard rfl rfl rfl rfl (fun hg => ?_) (fun hg => ?_)) <;> (fail_if_success (first | guard_hyp hg : true = true | guard_hyp hg : false = false)) <;> (try simp only [decide_eq_true_eq, decide_eq_false_iff_not] at hg) <;> simp only [Act.put, List.setIfInBounds_toArray, List.set_cons_zero, List.set_cons_succ]))); all_goals ((with_reducible refine wpQuiet_nil ?_); intro zq hz))
      obtain ⟨w1, happ, ho1, hg1⟩ := run_del zq.1 base g (i + 1) (i + 1) i xs (own_below HW.out zq.2) hi ⟨g, 0, none⟩ (fun h => absurd h (Nat.lt_irrefl _)) (i + 1 - (i + 1))
      have HO1 := Lib.hid ho1
      have HG1 := Lib.hid hg1
      clear ho1 hg1
      simp only [Nat.sub_self, Nat.add_sub_cancel] at happ
      refine wpList_apprun zq.1 rfl _ _ _ rfl _ _ rfl rfl _ _ happ ?_
      clear happ
      obtain ⟨w2, hclr, ho2, hg2⟩ := clear_tail w1 base g (i + 1) (i + 1) _ HO1.out (by omega) (by omega) 1 1 rfl
      simp only [Nat.add_sub_cancel] at hclr
      go_wp2_with fail
      go_ret
      exact ⟨rfl, ho2, grownBy_trans (grownBy_trans (below_grownBy zq.2) HG1.out) hg2⟩
    · go_enter Tryz.func104, Tryz.ntmps104
      go_wp2_with fail
      ((refine wp_region_tailK (W := w) 6 (by kernel_rfl) (by kernel_rfl) gRw ?_); simp only [List.take_succ_cons, List.take_zero, List.drop_succ_cons, List.drop_zero]; (repeat' (first | go_big_quiet_step (fail) | ((refine wpQuiet_guard rfl rfl rfl rfl (fun hg => ?_) (fun hg => ?_)) <;> (fail_if_success (first | guard_hyp hg : true = true | guard_hyp hg : false = false)) <;> (try simp only [decide_eq_true_eq, decide_eq_false_iff_not] at hg) <;> simp only [Act.put, List.setIfInBounds_toArray, List.set_cons_zero, List.set_cons_succ]))); all_goals ((with_reducible refine wpQuiet_nil ?_); intro zq hz))
      obtain ⟨w1, happ, ho1, hg1⟩ := run_del zq.1 base g (i + 1) cap i xs (own_below HW.out zq.2) hi ⟨g, (i + 1) , none⟩ (fun _ => rfl) (cap - (i + 1))
      have HO1 := Lib.hid ho1
      have HG1 := Lib.hid hg1
      clear ho1 hg1
      simp only [Nat.sub_self, Nat.add_sub_cancel] at happ
      refine wpList_apprun zq.1 rfl _ _ _ rfl _ _ rfl rfl _ _ happ ?_
      clear happ
      obtain ⟨w2, hclr, ho2, hg2⟩ := clear_tail w1 base g (i + 1) cap _ HO1.out (by omega) (by omega) 1 (cap - i) rfl
      simp only [Nat.add_sub_cancel] at hclr
      go_wp2_with fail
      go_ret
      exact ⟨rfl, ho2, grownBy_trans (grownBy_trans (below_grownBy zq.2) HG1.out) hg2⟩
end Go.Proofs.YtneelidbgigehaaGreat
/- The map of cracks: from corners to slices of directions that the call owns; add, walked. -/
namespace Go.Proofs.YtneelidbgigehaaGreat
set_option linter.unusedSimpArgs false
set_option linter.unusedVariables false
set_option maxRecDepth 100000
open Go Go.Maps Go.RowKit Trc
attribute [local go_sem] Kin.cell Kin.frozen Kin.lt0 Kin.lt1 Kin.lt2 Kin.lt3 run_mkf
theorem zero_hds (u : World) : (zeroValue 66).run Tryz.prog u = .ok (.slice none 0 0) u := by
  simp [go_sem]
section
variable {P : Program} {K : TypeId} {w : World} {b n : Nat} {F : Key → Option Value}
theorem OwnM.not_blk {g : Nat} {t : TypeId} {cs : Array Value} (h : OwnM P K w b n F) (hb : Blk w g t cs) : g ≠ b := by
  obtain ⟨D, ⟨es, clock, h1, _⟩, _⟩ := h
  intro e; subst e
  unfold Blk at hb
  rw [h1] at hb; cases hb
theorem OwnM.not_own (h : OwnM P K w b n F) {base : Nat} {e : TypeId} {size k : Nat} {v : Value} {xs : List Value} (ho : w.ownsRow base e size v k xs) : v.ownBlock ≠ some b := by
  obtain ⟨D, ⟨es, clock, h1, _⟩, _⟩ := h
  rcases ho.2 with ⟨rfl, _⟩ | ⟨g, cap, cur, rfl, _, hg, _⟩
  · intro e; cases e
  · intro e; injection e with e
    have e' : g = b := e
    subst e'; rw [h1] at hg; cases hg
/-- rows of two types lie in two blocks -/
theorem own_two {base base' : Nat} {e e' : TypeId} {size size' k k' : Nat} {v v' : Value} {xs xs' : List Value} (h : w.ownsRow base e size v k xs) (h' : w.ownsRow base' e' size' v' k' xs') (hne : e ≠ e') : v.ownBlock = none ∨ v.ownBlock ≠ v'.ownBlock := by
  rcases h.2 with ⟨rfl, _⟩ | ⟨g, cap, cur, rfl, _, hg, _⟩
  · exact .inl rfl
  · right
    rcases h'.2 with ⟨rfl, _⟩ | ⟨g', cap', cur', rfl, _, hg', _⟩
    · intro e; cases e
    · intro e; injection e with e
      have e' : g = g' := e
      subst e'; rw [hg] at hg'; injection hg' with hg'; injection hg' with h1 h2; exact hne h2
theorem own_slc {W : World} {base n size : Nat} {e : TypeId} {v : Value} {xs : List Value} (h : W.ownsRow base e size v n xs) : ∃ (A : Option Addr) (cap : Nat), v = .slice A n cap := by
  rcases h.2 with ⟨rfl, rfl⟩ | ⟨g, cap, cur, rfl, _⟩
  · exact ⟨_, _, rfl⟩
  · exact ⟨_, _, rfl⟩
end
abbrev OwnH (base : Nat) (w : World) (v : Value) (l : List Int) : Prop := w.ownsRow base 101 1 v l.length (l.flatMap encI)
structure CkF (base : Nat) (w : World) (m n : Nat) (F : Key → Option Value) (U : Pt → List Int) : Prop where
  map : OwnM Tryz.prog 60 w m n F
  el : ∀ p, wfK p → match F p with | none => U p = [] | some v => U p ≠ [] ∧ OwnH base w v (U p)
  ap : ∀ p q v v', wfK p → wfK q → p ≠ q → F p = some v → F q = some v' → ∀ k, v.ownBlock = some k → v'.ownBlock ≠ some k
section
variable {base : Nat} {w w' : World} {m n : Nat} {F : Key → Option Value} {U : Pt → List Int}
theorem CkF.start (w : World) : CkF base (w.alloc (.map #[] 0)) w.heap.size 0 (fun _ => none) (fun _ => []) :=
  ⟨OwnM.made w, fun p hp => rfl, fun p q v v' _ _ _ h => by cases h⟩
theorem CkF.below (h : CkF base w m n F U) (hb : Below w.heap.size w w') : CkF base w' m n F U := by
  refine ⟨h.map.below hb h.map.lt, fun p hp => ?_, h.ap⟩
  have := h.el p hp
  cases hv : F p with
  | none => rw [hv] at this; exact this
  | some v => rw [hv] at this; exact ⟨this.1, own_below this.2 hb⟩
/-- a row of another type has changed, or none -/
theorem CkF.grown {row : Option Nat} (h : CkF base w m n F U) (hg : w.grownBy w' row) (hm : some m ≠ row) (hr : ∀ p v, wfK p → F p = some v → v.ownBlock = none ∨ v.ownBlock ≠ row) : CkF base w' m n F U := by
  refine ⟨h.map.kept hg hm, fun p hp => ?_, h.ap⟩
  have := h.el p hp
  cases hv : F p with
  | none => rw [hv] at this; exact this
  | some v => rw [hv] at this; exact ⟨this.1, this.2.kept hg (hr p v hp hv)⟩
theorem CkF.mono {n' : Nat} (h : CkF base w m n F U) (hn : n ≤ n') : CkF base w m n' F U := ⟨h.map.mono hn, h.el, h.ap⟩
theorem CkF.ext {U' : Pt → List Int} (h : CkF base w m n F U) (e : ∀ p, wfK p → U p = U' p) : CkF base w m n F U' := by
  refine ⟨h.map, fun p hp => ?_, h.ap⟩
  have := h.el p hp
  rw [← e p hp]; exact this
theorem CkF.get (h : CkF base w m n F U) {p : Pt} (hp : wfK p) : OwnH base w ((F p).getD (.slice none 0 0)) (U p) := by
  have := h.el p hp
  cases hv : F p with
  | none => rw [hv] at this; rw [this]; exact World.ownsRow_nil _ _ _ _
  | some v => rw [hv] at this; exact this.2
theorem CkF.look (h : CkF base w m n F U) {p : Pt} (hp : wfK p) : ∃ A cap, (F p).getD (.slice none 0 0) = .slice A (U p).length cap ∧ (Instr.lookup 62 (.map (some m)) (kv p) false).run Tryz.prog w = .ok (.slice A (U p).length cap) w := by
  obtain ⟨A, cap, e⟩ := own_slc (h.get hp)
  refine ⟨A, cap, e, ?_⟩
  rw [h.map.look ptKey Tryz.underlying62 (zero_hds w) hp, e]
/-- the row of p has changed, in memory and in the map -/
theorem CkF.turn (h : CkF base w m n F U) {p : Pt} (hp : wfK p) {v v' : Value} {L : List Int} {w1 w2 w3 : World} {n' : Nat} (hL : L ≠ []) (hv : (F p).getD (.slice none 0 0) = v) (hg1 : w.grownBy w1 (some m)) (hg2 : w1.grownBy w2 v.ownBlock) (hg3 : w2.grownBy w3 (some m)) (hs1 : w.heap.size ≤ w1.heap.size)
    (ho : OwnH base w2 v' L) (hat : v'.ownBlock = v.ownBlock ∨ ∀ k, v'.ownBlock = some k → w.heap.size ≤ k) (hM : OwnM Tryz.prog 60 w3 m n' (updM F p v')) (hm2 : v'.ownBlock ≠ some m) : CkF base w3 m n' (updM F p v') (fun q => if q = p then L else U q) := by
  have k3 : ∀ {u : Value} {l : List Int}, OwnH base w u l → u.ownBlock = none ∨ u.ownBlock ≠ v.ownBlock → OwnH base w3 u l := fun {u l} hu hne => by
    have e1 : u.ownBlock ≠ some m := h.map.not_own hu
    exact ((hu.kept hg1 (.inr e1)).kept hg2 hne).kept hg3 (.inr e1)
  have hother : ∀ q u, wfK q → q ≠ p → F q = some u → u.ownBlock = none ∨ u.ownBlock ≠ v.ownBlock := fun q u hq hne hF => by
    cases hb : u.ownBlock with
    | none => exact .inl rfl
    | some k =>
      right; intro e
      cases hFp : F p with
      | none => rw [hFp] at hv; subst hv; cases e
      | some u' =>
        rw [hFp] at hv; simp only [Option.getD_some] at hv; subst hv
        exact h.ap q p u u' hq hp hne hF hFp k hb e.symm
  have hnew : ∀ {u : Value} {l : List Int}, OwnH base w u l → u.ownBlock = none ∨ u.ownBlock ≠ v.ownBlock → ∀ k, u.ownBlock = some k → v'.ownBlock ≠ some k := fun {u l} hu hne k hk e => by
    have hlt := (hu.lt k hk).2
    rcases hat with e1 | e1
    · rcases hne with h0 | h0
      · rw [h0] at hk; cases hk
      · exact h0 (by rw [hk, ← e1, e])
    · have := e1 k e; omega
  have ho3 : OwnH base w3 v' L := ho.kept hg3 (.inr hm2)
  refine ⟨hM, fun q hq => ?_, fun q r u u' hq hr hne hF hF' k hk => ?_⟩
  · unfold updM
    by_cases e : q = p
    · subst e
      simp only [if_true]
      exact ⟨hL, ho3⟩
    · simp only [if_neg e]
      have := h.el q hq
      cases hF : F q with
      | none => rw [hF] at this; exact this
      | some u => rw [hF] at this; exact ⟨this.1, k3 this.2 (hother q u hq e hF)⟩
  · unfold updM at hF hF'
    by_cases e : q = p
    · subst e
      rw [if_pos rfl] at hF
      rw [if_neg (fun e => hne e.symm)] at hF'
      injection hF with hF; subst hF
      have := h.el r hr
      rw [hF'] at this
      intro e; exact hnew this.2 (hother r u' hr (fun e => hne e.symm) hF') k e hk
    · rw [if_neg e] at hF
      by_cases e2 : r = p
      · subst e2
        rw [if_pos rfl] at hF'
        injection hF' with hF'; subst hF'
        have := h.el q hq
        rw [hF] at this
        exact hnew this.2 (hother q u hq e hF) k hk
      · rw [if_neg e2] at hF'
        exact h.ap q r u u' hq hr hne hF hF' k hk
/-- the row of p has been dropped -/
theorem CkF.drop (h : CkF base w m n F U) {p : Pt} (hp : wfK p) (hg : w.grownBy w' (some m)) (hM : OwnM Tryz.prog 60 w' m n (delM F p)) : CkF base w' m n (delM F p) (fun q => if q = p then [] else U q) := by
  refine ⟨hM, fun q hq => ?_, fun q r u u' hq hr hne hF hF' k hk => ?_⟩
  · unfold delM
    by_cases e : q = p
    · subst e; simp only [if_true]
    · simp only [if_neg e]
      have := h.el q hq
      cases hF : F q with
      | none => rw [hF] at this; exact this
      | some u => rw [hF] at this; exact ⟨this.1, this.2.kept hg (.inr (h.map.not_own this.2))⟩
  · unfold delM at hF hF'
    by_cases e : q = p
    · rw [if_pos e] at hF; cases hF
    · by_cases e2 : r = p
      · rw [if_pos e2] at hF'; cases hF'
      · rw [if_neg e] at hF; rw [if_neg e2] at hF'
        exact h.ap q r u u' hq hr hne hF hF' k hk
end
/-- the cracks in memory: map m -/
def CkM (base : Nat) (w : World) (m n : Nat) (R : List Ck) : Prop := ∃ F, CkF base w m n F (hdR R)
theorem CkM.below {base m n : Nat} {w w' : World} {R : List Ck} (h : CkM base w m n R) (hb : Below w.heap.size w w') : CkM base w' m n R := by
  obtain ⟨F, h⟩ := h; exact ⟨F, h.below hb⟩
theorem CkM.lt {base m n : Nat} {w : World} {R : List Ck} (h : CkM base w m n R) : m < w.heap.size := by
  obtain ⟨F, h⟩ := h; exact h.map.lt
theorem CkM.mono {base m n n' : Nat} {w : World} {R : List Ck} (h : CkM base w m n R) (hn : n ≤ n') : CkM base w m n' R := by
  obtain ⟨F, h⟩ := h; exact ⟨F, h.mono hn⟩
/-- a row of another type that the call owns has changed -/
theorem CkM.row {base base' m n k size : Nat} {w w' : World} {R : List Ck} {u : Value} {e : TypeId} {xs : List Value} (h : CkM base w m n R) (hu : w.ownsRow base' e size u k xs) (hne : e ≠ 101) (hg : w.grownBy w' u.ownBlock) : CkM base w' m n R := by
  obtain ⟨F, h⟩ := h
  refine ⟨F, h.grown hg (fun e => h.map.not_own hu e.symm) fun p v hp hv => ?_⟩
  have := h.el p hp
  rw [hv] at this
  exact own_two this.2 hu (fun e => hne e.symm)
/-- a variable's block has changed -/
theorem CkM.var {base m n g : Nat} {w w' : World} {R : List Ck} {t : TypeId} {cs : Array Value} (h : CkM base w m n R) (hu : Blk w g t cs) (hne : t ≠ 101) (hg : w.grownBy w' (some g)) : CkM base w' m n R := by
  obtain ⟨F, h⟩ := h
  refine ⟨F, h.grown hg (fun e => by injection e with e; exact h.map.not_blk hu e.symm) fun p v hp hv => ?_⟩
  have := h.el p hp
  rw [hv] at this
  exact .inr (own_ne this.2 hu (fun e => hne e.symm))
/-- blocks of other types are as they were -/
def Kept (w w' : World) : Prop := ∀ (g : Nat) (t : TypeId) (cs : Array Value), Blk w g t cs → t ≠ 101 → Blk w' g t cs
theorem Kept.refl (w : World) : Kept w w := fun _ _ _ h _ => h
theorem Kept.trans {w w' w'' : World} (h : Kept w w') (h' : Kept w' w'') : Kept w w'' := fun g t cs hb hn => h' g t cs (h g t cs hb hn) hn
theorem Kept.own {w w' : World} {base size k : Nat} {u : Value} {e : TypeId} {xs : List Value} (h : Kept w w') (hu : w.ownsRow base e size u k xs) (hne : e ≠ 101) : w'.ownsRow base e size u k xs := by
  refine ⟨hu.1, ?_⟩
  rcases hu.2 with h0 | ⟨g, cap, cur, e1, e2, hg, hr⟩
  · exact .inl h0
  · exact .inr ⟨g, cap, cur, e1, e2, h g e cur hg hne, hr⟩
theorem wfK_of {p : Pt} (h : -1000000 ≤ p.1 ∧ p.1 ≤ 1000000 ∧ -1000000 ≤ p.2 ∧ p.2 ≤ 1000000) : wfK p := by
  have e : ∀ x : Int, -1000000 ≤ x → x ≤ 1000000 → (Lit.int .i64 x).wf = true := fun x h1 h2 => by
    show (decide (IntKind.i64.min ≤ x) && decide (x ≤ IntKind.i64.max)) = true
    have e1 : IntKind.i64.min = -9223372036854775808 := by decide
    have e2 : IntKind.i64.max = 9223372036854775807 := by decide
    rw [e1, e2]
    simp; omega
  exact ⟨e _ h.1 h.2.1, e _ h.2.2.1 h.2.2.2⟩
set_option maxHeartbeats 8000000 in
theorem add_any (base : Nat) (w : World) (m : Nat) (R : List Ck) (p : Pt) (h : Int) (hC : CkM base w m R.length R) (hp : wfK p) (hbm : base ≤ m) (hl : R.length ≤ 1000000000) :
    Calls Tryz.prog 54 #[.map (some m), .agg #[.int .i64 p.1, .int .i64 p.2], .int .i64 h] w fun e w' => e = .returned (.tuple #[]) ∧ CkM base w' m (R.length + 1) (R ++ [(p, h)]) ∧ Below base w w' ∧ Kept w w' := by
  obtain ⟨F, hC⟩ := hC
  have HC := Lib.hid hC
  have hmb := hC.map.lt
  have HP := Lib.hid hp
  obtain ⟨A5, cap5, hgd, _⟩ := hC.look hp
  obtain ⟨len5, hlen⟩ : ∃ len5, (hdR R p).length = len5 := ⟨_, rfl⟩
  have hlb : (hdR R p).length ≤ 1000000000 := by
    have h1 : (hdR R p).length ≤ R.length := by unfold hdR; rw [List.length_map]; exact List.length_filter_le _ _
    omega
  rw [hlen] at hgd
  have HLN := Lib.hid hlen
  have HGD := Lib.hid hgd
  clear hC hp hlen hgd
  go_enter Tryz.func54, Tryz.ntmps54
  go_wp2_with fail
  obtain ⟨W2, hW2⟩ : ∃ W2, (w.alloc (.cells #[.int .i64 p.1, .int .i64 p.2] 60)).alloc (.cells #[.int .i64 h] 101) = W2 := ⟨_, rfl⟩
  have hb2 : Below w.heap.size w W2 := hW2 ▸ ((Below.refl w.heap.size w).alloc (Nat.le_refl _) _).alloc (le_alloc (Nat.le_refl _) _) _
  have hs2 : W2.heap.size = w.heap.size + 1 + 1 := by rw [← hW2, World.size_alloc, World.size_alloc]
  have hr2 : Rd 1 encI W2 (.slice (some ⟨w.heap.size + 1, 0, none⟩) 1 1) [h] := by
    have := rd_one (w.alloc (.cells #[.int .i64 p.1, .int .i64 p.2] 60)) encI_len 101 h _ rfl rfl
    rw [show (encI h).toArray = #[Value.int .i64 h] from rfl, hW2, World.size_alloc] at this
    exact this
  rw [hW2]
  have C2 := HC.out.below hb2
  obtain ⟨st, w1, hent, hg1, hs1, hE⟩ := C2.map.entry ptKey ptLaw Tryz.underlying62 zero_hds (by unfold maxLen; omega) HP.out
  rw [HGD.out] at hent
  have hent' : (Instr.mapEntry 62 (.map (some m)) (.agg #[.int .i64 p.1, .int .i64 p.2])).run Tryz.prog W2 = .ok (.tuple #[.slice A5 len5 cap5, goInt st]) w1 := hent
  clear hent
  rw [hent']
  go_simp
  have ow0 := C2.get HP.out
  rw [HGD.out] at ow0
  have ow1 := own_grownBy ow0 hg1 (C2.map.not_own ow0)
  have hnm := fun e : some m = _ => C2.map.not_own ow0 e.symm
  have hbb : m < w1.heap.size := by omega
  have HO1 := Lib.hid (show OwnH base w1 (.slice A5 len5 cap5) (hdR R p) from ow1)
  have HSR := Lib.hid (hr2.grown hg1 (.inr (by intro e; injection e with e; simp only at e; omega)))
  have hw1 : base ≤ w1.heap.size := by omega
  have HG1 := Lib.hid hg1
  have HS1 := Lib.hid hs1
  have HE1 := Lib.hid hE
  have HC2 := Lib.hid C2
  have HB2 := Lib.hid hb2
  clear ow0 ow1 hent' hg1 hs1 hE hW2 C2 hb2 hr2
  go_wp2_with (at_builtin; refine wpList_app _ rfl _ _ 66 rfl encI_len (by decide) oneI base 101 (.int .i64 0) 8 infoHd rfl Tryz.underlying66 _ _ _ _ rfl (HO1.out) _ _ _ rfl (HSR.out) ?c1 (by decide) ?c2 ?_; (case c1 => (first | (simp only [List.length_append, List.length_cons, List.length_nil]; omega) | omega | (simp; omega))); (case c2 => exact lEw); intro v' w2 hown' hg2 hbel hat'; (have HO2 := Lib.hid hown'; have HG2 := Lib.hid hg2; have HBL := Lib.hid hbel; have HAT := Lib.hid hat'; (obtain ⟨w3, hst, hM3, hg3, hs3⟩ := HE1.out w2 v' (HG2.out.block m hbb hnm)); have hst' : (Instr.entryStore 62 (.map (some m)) (.int .i64 st) v').run Tryz.prog w2 = .ok () w3 := hst; have HM3 := Lib.hid hM3; have HG3 := Lib.hid hg3; clear hown' hg2 hbel hat' hst hM3 hg3 hs3))
  have hs1 := HS1.out
  have hg2 : w1.grownBy w2 (Value.slice A5 len5 cap5).ownBlock := HG2.out
  have hat : v'.ownBlock = (Value.slice A5 len5 cap5).ownBlock ∨ v'.ownBlock = some w1.heap.size := HAT.out
  have hC3 := HC2.out.turn HP.out (L := hdR R p ++ [h]) (by simp) HGD.out HG1.out hg2 HG3.out (by omega) HO2.out (hat.imp id fun e k hk => by
    rw [e] at hk; injection hk with hk; omega) HM3.out (by
    rcases hat with e | e
    · rw [e]; exact fun e2 => hnm e2.symm
    · rw [e]; intro e2; injection e2 with e2; omega)
  go_end0
  refine ⟨rfl, ⟨_, hC3.ext fun q hq => ?_⟩, ?_, ?_⟩
  · rw [hdR_snoc]
    by_cases e : q = p
    · simp [e]
    · simp [e]
  · have b1 : Below base w W2 := HB2.out.mono (by omega)
    have b2 : Below base w W2 := b1
    have b3 := b1.grown HG1.out (by omega) (fun k e => by injection e with e; omega)
    exact (b3.trans HBL.out).grown HG3.out (by have := hg2.size; omega) (fun k e => by injection e with e; omega)
  · intro g t cs hb hne
    have k2 := hb.below HB2.out
    have k3 := k2.grown HG1.out (fun e => by injection e with e; exact HC2.out.map.not_blk k2 e)
    have k4 := k3.grown hg2 (fun e => own_ne HO1.out k3 (fun e => hne e.symm) e.symm)
    exact k4.grown HG3.out (fun e => by injection e with e; exact HC2.out.map.not_blk k2 e)
end Go.Proofs.YtneelidbgigehaaGreat
/- The small functions of directions, and take: walked. -/
namespace Go.Proofs.YtneelidbgigehaaGreat
set_option linter.unusedSimpArgs false
set_option linter.unusedVariables false
set_option maxRecDepth 100000
open Go Go.Maps Go.RowKit Trc
attribute [local go_sem] Kin.cell Kin.frozen Kin.lt0 Kin.lt1 Kin.lt2 Kin.lt3 run_mkf
theorem left_any (h : Int) (w : World) (hh : 0 ≤ h ∧ h < 4) : Calls Tryz.prog 59 #[.int .i64 h] w fun e w' => e = .returned (.int .i64 (lf h)) ∧ Below w.heap.size w w' := by
  have e1 : IntKind.i64.wrap (h + 1) = h + 1 := IntWalk.i64_in _ (by omega)
  have e2 : (h + 1).tmod 4 = lf h := by unfold lf; rw [Int.tmod_eq_emod_of_nonneg (by omega)]
  have e3 : IntKind.i64.wrap (lf h) = lf h := IntWalk.i64_in _ (by unfold lf; omega)
  have e2b : (h + 1) % 4 = lf h := rfl
  go_enter Tryz.func59, Tryz.ntmps59
  go_wp2_with fail
  go_ret
  exact ⟨by simp [e2, e2b, e3], gRw⟩
theorem right_any (h : Int) (w : World) (hh : 0 ≤ h ∧ h < 4) : Calls Tryz.prog 60 #[.int .i64 h] w fun e w' => e = .returned (.int .i64 (rt h)) ∧ Below w.heap.size w w' := by
  have e1 : IntKind.i64.wrap (h + 3) = h + 3 := IntWalk.i64_in _ (by omega)
  have e2 : (h + 3).tmod 4 = rt h := by unfold rt; rw [Int.tmod_eq_emod_of_nonneg (by omega)]
  have e3 : IntKind.i64.wrap (rt h) = rt h := IntWalk.i64_in _ (by unfold rt; omega)
  have e2b : (h + 3) % 4 = rt h := rfl
  go_enter Tryz.func60, Tryz.ntmps60
  go_wp2_with fail
  go_ret
  exact ⟨by simp [e2, e2b, e3], gRw⟩
theorem Blk.at0 (w : World) (t : TypeId) (cs : Array Value) (g : Nat) (hg : g = w.heap.size) : Blk (w.alloc (.cells cs t)) g t cs := by subst hg; exact Blk.new w t cs
theorem from_any (h : Int) (p : Pt) (w : World) (hh : 0 ≤ h ∧ h < 4) (hp : -1000000 ≤ p.1 ∧ p.1 ≤ 1000000 ∧ -1000000 ≤ p.2 ∧ p.2 ≤ 1000000) :
    Calls Tryz.prog 58 #[.int .i64 h, .agg #[.int .i64 p.1, .int .i64 p.2]] w fun e w' => e = .returned (.agg #[.int .i64 (fromP h p).1, .int .i64 (fromP h p).2]) ∧ Below w.heap.size w w' := by
  have e1 : IntKind.i64.wrap (p.1 + 1) = p.1 + 1 := IntWalk.i64_in _ (by omega)
  have e2 : IntKind.i64.wrap (p.2 + 1) = p.2 + 1 := IntWalk.i64_in _ (by omega)
  have e3 : IntKind.i64.wrap (p.1 - 1) = p.1 - 1 := IntWalk.i64_in _ (by omega)
  have e4 : IntKind.i64.wrap (p.2 - 1) = p.2 - 1 := IntWalk.i64_in _ (by omega)
  have hc : h = 0 ∨ h = 1 ∨ h = 2 ∨ h = 3 := by omega
  rcases hc with rfl | rfl | rfl | rfl
  all_goals
    go_enter Tryz.func58, Tryz.ntmps58
    go_wp2_with fail
    ((try simp only [Exit.inBlock, Exit.then]); refine bodyPost_ret (results_cell_row rfl _ _ _ _ _ (0, 0) _ rfl (Blk.at0 _ _ _ _ (by simp)) Tryz.underlying60 rfl (by kernel_rfl)) rfl ?_)
    exact ⟨rfl, gRw⟩
/-- the place of x, or -1 -/
def idxH (l : List Int) (x : Int) : Int := if x ∈ l then (l.idxOf x : Nat) else -1
theorem idxH_yes {l : List Int} {x : Int} {k : Nat} (h : l[k]? = some x) (hn : ∀ j, j < k → ∀ y, l[j]? = some y → y ≠ x) : idxH l x = k := by
  have hm := List.mem_of_getElem? h
  unfold idxH
  rw [if_pos hm]
  have hk := (List.getElem?_eq_some_iff.1 h).1
  have hi := List.idxOf_lt_length_iff.2 hm
  have hg := List.getElem_idxOf hi
  rcases Nat.lt_trichotomy (l.idxOf x) k with h1 | h1 | h1
  · exact absurd hg (hn _ h1 _ (List.getElem?_eq_getElem hi))
  · rw [h1]
  · exfalso
    have := List.not_of_lt_findIdx (p := (· == x)) (xs := l) (i := k) h1
    rw [(List.getElem?_eq_some_iff.1 h).2] at this
    simp at this
theorem idxH_no {l : List Int} {x : Int} (hn : ∀ (j : Nat) y, l[j]? = some y → y ≠ x) : idxH l x = -1 := by
  unfold idxH
  rw [if_neg fun hm => by obtain ⟨j, hj⟩ := List.getElem?_of_mem hm; exact hn j x hj rfl]
set_option maxHeartbeats 4000000 in
theorem indexH_any (v : Value) (l : List Int) (x : Int) (w : World) (h : Rd 1 encI w v l) (hl : l.length ≤ 1000000000) :
    Calls Tryz.prog 103 #[v, .int .i64 x] w fun e w' => e = .returned (.int .i64 (idxH l x)) ∧ Below w.heap.size w w' := by
  obtain ⟨A, capA, rfl, hcapA, hopA⟩ := h.open_
  have HA := Lib.hid hopA
  have HLA := Lib.hid h
  clear hopA h
  go_enter Tryz.func103, Tryz.ntmps103
  go_wp2_with fail
  go_loopw [5, 8] (fun s i wr => ∃ k : Nat, k ≤ l.length ∧ i = .int .i64 k ∧ (∀ j, j < k → ∀ y, l[j]? = some y → y ≠ x) ∧ ∃ y : Kin w, y.1 = wr) (fun _ i _ => l.length - (intOf i).toNat)
  case atStart => exact ⟨0, Nat.zero_le _, rfl, fun j hj => absurd hj (Nat.not_lt_zero _), ⟨w, Below.refl _ _⟩, rfl⟩
  case round =>
    obtain ⟨k, hk, rfl, hno, y, rfl⟩ := hrel
    have HNO := Lib.hid hno
    clear hno
    by_cases hlt : k < l.length
    · obtain ⟨r, hr⟩ : ∃ el_, (l)[k]? = some el_ := ⟨_, List.getElem?_eq_getElem (by first | exact hlt | omega)⟩
      obtain ⟨bA, offA, rfl, hbA, hcA⟩ := HA.out (k) _ hr
      have r_0 : w.cell? ⟨bA, offA + k, none⟩ = some (.int .i64 r) := by have := hcA (k) _ hr 0 _ rfl; simpa using this
      have hbA2 : bA < w.heap.size + 1 := by omega
      have HAc := Lib.hid hcA
      have Hr := Lib.hid hr
      clear hr hcA
      by_cases he : x = r
      · subst he
        have he := Lib.hid (idxH_yes Hr.out HNO.out)
        go_wp2_with fail
        go_ret
        exact ⟨by rw [he.out]; rfl, y.2⟩
      · go_wp2_with fail
        refine ⟨⟨k + 1, by omega, by go_num, fun j hj z hz => ?_, y, rfl⟩, by simp [intOf]; omega⟩
        by_cases e : j = k
        · subst e; rw [Hr.out] at hz; injection hz with hz; exact fun e => he (e.symm.trans hz.symm)
        · exact HNO.out j (by omega) z hz
    · have he := Lib.hid (idxH_no (l := l) (x := x) fun j z hz => HNO.out j (by have := (List.getElem?_eq_some_iff.1 hz).1; omega) z hz)
      go_wp2_with fail
      go_ret
      exact ⟨by rw [he.out]; rfl, y.2⟩
theorem containsH_any (v : Value) (l : List Int) (x : Int) (w : World) (h : Rd 1 encI w v l) (hl : l.length ≤ 1000000000) :
    Calls Tryz.prog 61 #[v, .int .i64 x] w fun e w' => e = .returned (.bool (decide (x ∈ l))) ∧ Below w.heap.size w w' := by
  have H := Lib.hid h
  clear h
  go_enter Tryz.func61, Tryz.ntmps61
  go_wp2_with fail
  (go_at_call 103; (with_reducible refine (Kin.callK (W := w) gRw (indexH_any _ l x _ H.out hl)).mono ?_); rintro e w' ⟨z, rfl, hz, rfl⟩; skip)
  go_wp2_with fail
  go_ret
  refine ⟨ret_bool ?_, z.2⟩
  unfold idxH
  by_cases e : x ∈ l
  · simp [e]
  · simp [e]
theorem run_eql_nilH (a : Option Addr) (l c : Nat) (w : World) : (binOp .eql 66 (.slice a l c) (.slice none 0 0)).run Tryz.prog w = .ok (.bool a.isNone) w :=
  Lib.run_eql_slice_nil w _ 101 a l c 0 0 (by kernel_rfl)
set_option maxHeartbeats 4000000 in
theorem cloneH_any (v : Value) (l : List Int) (w : World) (h : Rd 1 encI w v l) (hlen : l.length ≤ 1000000000) :
    Calls Tryz.prog 105 #[v] w fun e w' => (∃ u, e = .returned u ∧ w'.ownsRow w.heap.size 101 1 u l.length (l.flatMap encI)) ∧ Below w.heap.size w w' := by
  obtain ⟨A, capA, rfl, hcapA, hopA⟩ := h.open_
  have HA := Lib.hid hopA
  have HLA := Lib.hid h
  clear hopA h
  have hnl := run_eql_nilH
  cases A with
  | none =>
    have hl : l = [] := by
      rcases l with _ | ⟨r, l⟩
      · rfl
      · obtain ⟨b, off, e, _⟩ := HA.out 0 r rfl
        cases e
    subst hl
    go_enter Tryz.func105, Tryz.ntmps105
    go_wp2
    go_ret
    exact ⟨⟨_, rfl, World.ownsRow_nil _ _ _ _⟩, gRw⟩
  | some p =>
    go_enter Tryz.func105, Tryz.ntmps105
    go_wp2_with (at_builtin; refine wpList_app _ rfl _ _ 66 rfl encI_len (by decide) oneI w.heap.size 101 (.int .i64 0) 8 infoHd rfl Tryz.underlying66 _ _ _ _ rfl (own_made w encI_len w.heap.size _ [] #[] rfl (Nat.le_refl _) (by decide)) _ _ _ rfl (HLA.out.below gRw) ?c1 (by decide) ?c2 ?_; (case c1 => (first | (simp only [List.length_append, List.length_cons, List.length_nil]; omega) | omega | (simp; omega))); (case c2 => exact lEw); intro v' w1 hown' hg hbel hat'; (obtain ⟨y, rfl⟩ : ∃ y : Kin w, y.1 = w1 := ⟨⟨w1, Below.trans gRw hbel⟩, rfl⟩); clear hbel hg hat')
    go_ret
    exact ⟨⟨_, rfl, by simpa using hown'⟩, gRw⟩
theorem idxH_nat {l : List Int} {x : Int} (h : x ∈ l) : idxH l x = (l.idxOf x : Nat) ∧ l.idxOf x < l.length := ⟨by unfold idxH; rw [if_pos h], List.idxOf_lt_length_iff.2 h⟩
theorem hdR_len (R : List Ck) (p : Pt) : (hdR R p).length ≤ R.length := by unfold hdR; rw [List.length_map]; exact List.length_filter_le _ _
set_option maxHeartbeats 8000000 in
theorem take_no (base : Nat) (w : World) (m n : Nat) (R : List Ck) (p : Pt) (h : Int) (hC : CkM base w m n R) (hp : wfK p) (hl : R.length ≤ 1000000000) (hno : h ∉ hdR R p) :
    Calls Tryz.prog 57 #[.map (some m), .agg #[.int .i64 p.1, .int .i64 p.2], .int .i64 h] w fun e w' => e = .returned (.bool false) ∧ Below w.heap.size w w' := by
  obtain ⟨F, hC⟩ := hC
  have HC := Lib.hid hC
  have hmb := hC.map.lt
  have HP := Lib.hid hp
  have hln := hdR_len R p
  have hi : idxH (hdR R p) h = -1 := by unfold idxH; rw [if_neg hno]
  have HI := Lib.hid hi
  have HNO := Lib.hid hno
  obtain ⟨W1, hW1⟩ : ∃ W1, w.alloc (.cells #[.int .i64 p.1, .int .i64 p.2] 60) = W1 := ⟨_, rfl⟩
  have hb1 : Below w.heap.size w W1 := hW1 ▸ (Below.refl w.heap.size w).alloc (Nat.le_refl _) _
  have C1 := hC.below hb1
  obtain ⟨A, cap, hgd, hlk0⟩ := C1.look hp
  have hlk : (Instr.lookup 62 (.map (some m)) (.agg #[.int .i64 p.1, .int .i64 p.2]) false).run Tryz.prog W1 = .ok (.slice A (hdR R p).length cap) W1 := hlk0
  have hrd := Rd.own encI_len (C1.get hp)
  rw [hgd] at hrd
  have HRD := Lib.hid hrd
  rw [← hW1] at hlk
  have HW1 := Lib.hid hW1
  clear hC hp hi hno hlk0 hgd hrd C1 hW1 hb1
  go_enter Tryz.func57, Tryz.ntmps57
  go_wp2_with fail
  rw [HW1.out]
  clear hlk
  (go_at_call 103; (with_reducible refine (Kin.callK (W := W1) gRw (indexH_any _ (hdR R p) h _ HRD.out (by omega))).mono ?_); rintro e w' ⟨z, rfl, hz, rfl⟩; skip)
  rw [HI.out]
  go_wp2_with fail
  go_ret
  refine ⟨rfl, ?_⟩
  have hb1 : Below w.heap.size w W1 := HW1.out ▸ (Below.refl w.heap.size w).alloc (Nat.le_refl _) _
  exact hb1.trans (z.2.mono hb1.size)
theorem look_keep {base m n len cap : Nat} {w w' : World} {F : Key → Option Value} {R : List Ck} {p : Pt} {A : Option Addr} (hC : CkF base w m n F (hdR R)) (hp : wfK p) (hb : Below w.heap.size w w') (hg : (F p).getD (.slice none 0 0) = .slice A (hdR R p).length cap) (hl : (hdR R p).length = len) :
    (Instr.lookup 62 (.map (some m)) (.agg #[.int .i64 p.1, .int .i64 p.2]) false).run Tryz.prog w' = .ok (.slice A len cap) w' := by
  obtain ⟨A', cap', e1, e2⟩ := (hC.below hb).look hp
  rw [hg] at e1
  injection e1 with e3 e4 e5
  subst e3 e5
  rw [hl] at e2
  exact e2
set_option maxHeartbeats 8000000 in
theorem take_yes (base : Nat) (w : World) (m n : Nat) (R : List Ck) (p : Pt) (h : Int) (hC : CkM base w m n R) (hp : wfK p) (hl : R.length ≤ 1000000) (hn : n ≤ 10000000000) (hbw : base ≤ w.heap.size) (hyes : h ∈ hdR R p) :
    Calls Tryz.prog 57 #[.map (some m), .agg #[.int .i64 p.1, .int .i64 p.2], .int .i64 h] w fun e w' => e = .returned (.bool true) ∧ CkM base w' m (n + 1) (R.erase (p, h)) ∧ w.grownBy w' (some m) := by
  obtain ⟨F, hC⟩ := hC
  have HC := Lib.hid hC
  have hmb := hC.map.lt
  have HP := Lib.hid hp
  have hln := hdR_len R p
  obtain ⟨hi, hil⟩ := idxH_nat hyes
  obtain ⟨k, hk⟩ : ∃ k, (hdR R p).idxOf h = k := ⟨_, rfl⟩
  rw [hk] at hi hil
  have HI := Lib.hid hi
  have HK := Lib.hid hk
  have HY := Lib.hid hyes
  obtain ⟨W1, hW1⟩ : ∃ W1, w.alloc (.cells #[.int .i64 p.1, .int .i64 p.2] 60) = W1 := ⟨_, rfl⟩
  have hb1 : Below w.heap.size w W1 := hW1 ▸ (Below.refl w.heap.size w).alloc (Nat.le_refl _) _
  have C1 := hC.below hb1
  obtain ⟨A, cap, hgd, hlk0⟩ := C1.look hp
  have hlk : (Instr.lookup 62 (.map (some m)) (.agg #[.int .i64 p.1, .int .i64 p.2]) false).run Tryz.prog W1 = .ok (.slice A (hdR R p).length cap) W1 := hlk0
  have hrd := Rd.own encI_len (C1.get hp)
  rw [hgd] at hrd
  have HRD := Lib.hid hrd
  have HC1 := Lib.hid C1
  have B1 : Blk W1 w.heap.size 60 #[.int .i64 p.1, .int .i64 p.2] := hW1 ▸ Blk.new _ _ _
  have HB1 := Lib.hid B1
  rw [← hW1] at hlk
  have HW1 := Lib.hid hW1
  have HGD := Lib.hid hgd
  obtain ⟨len, hlen⟩ : ∃ len, (hdR R p).length = len := ⟨_, rfl⟩
  have HLN := Lib.hid hlen
  rw [hlen] at hil hln hlk
  clear hC hp hi hyes hlk0 hgd hrd C1 hW1 hb1 B1 hlen hk
  go_enter Tryz.func57, Tryz.ntmps57
  go_wp2_with fail
  rw [HW1.out]
  clear hlk
  (go_at_call 103; (with_reducible refine (Kin.callK (W := W1) gRw (indexH_any _ (hdR R p) h _ (HLN.out ▸ HRD.out) (by rw [HLN.out]; omega))).mono ?_); rintro e w' ⟨z, rfl, hz, rfl⟩; skip)
  rw [HI.out]
  obtain ⟨W2, hW2⟩ : ∃ W2, z.1 = W2 := ⟨_, rfl⟩
  rw [hW2] at hz ⊢
  have HBZ := Lib.hid hz
  have C2 := HC1.out.below hz
  have B2 := HB1.out.below hz
  have p_0 : W2.cell? ⟨w.heap.size, 0, none⟩ = some (.int .i64 p.1) := B2.cell 0
  have p_1 : W2.cell? ⟨w.heap.size, 1, none⟩ = some (.int .i64 p.2) := B2.cell 1
  have pl := B2.lt
  have hlk2 : (Instr.lookup 62 (.map (some m)) (.agg #[.int .i64 p.1, .int .i64 p.2]) false).run Tryz.prog W2 = .ok (.slice A len cap) W2 := by
    obtain ⟨A', cap', e1, e2⟩ := C2.look HP.out
    rw [HGD.out] at e1
    injection e1 with e3 e4 e5
    subst e3 e5
    rw [HLN.out] at e2
    exact e2
  have HC2 := Lib.hid C2
  have HB2 := Lib.hid B2
  have HRD2 := Lib.hid (HRD.out.below hz)
  clear hW2 hz C2 B2
  have hww : Below w.heap.size w W2 := by
    have hb1 : Below w.heap.size w W1 := HW1.out ▸ (Below.refl w.heap.size w).alloc (Nat.le_refl _) _
    exact hb1.trans (HBZ.out.mono hb1.size)
  have HWW := Lib.hid hww
  by_cases h1 : len = 1
  · subst h1
    obtain ⟨w3, hd, hM3, hg3, hs3⟩ := HC2.out.map.drop (ty := 0) ptKey Tryz.underlying62 HP.out
    have hd' : (Builtin.delete_ #[62, 60] 0 #[.map (some m), .agg #[.int .i64 p.1, .int .i64 p.2]]).run Tryz.prog W2 = .ok (.tuple #[]) w3 := hd
    have C3 := HC2.out.drop HP.out hg3 hM3
    have HC3 := Lib.hid C3
    have HG3 := Lib.hid hg3
    clear hd C3 hM3 hg3 hs3 hww
    go_wp2_with fail
    go_ret
    refine ⟨rfl, ⟨_, (HC3.out.mono (Nat.le_succ _)).ext fun q hq => ?_⟩, grownBy_trans (below_grownBy HWW.out) HG3.out⟩
    rw [hdR_erase]
    by_cases e : q = p
    · subst e
      rw [if_pos rfl, if_pos rfl]
      obtain ⟨x, hx⟩ := List.length_eq_one_iff.1 HLN.out
      have hm := HY.out
      rw [hx] at hm ⊢
      obtain rfl := List.mem_singleton.1 hm
      simp
    · rw [if_neg e, if_neg e]
  · have e1 : IntKind.i64.wrap ((k : Int) + 1) = (k : Int) + 1 := IntWalk.i64_in _ (by omega)
    have hl1 : ((len : Int) == 1) = false := by rw [beq_eq_false_iff_ne]; omega
    have mixed : Tryz.prog.follows .mixedOrders = true := by kernel_rfl
    clear hww
    go_wp2_with fail
    refine wp_region_heldT (S := fun w' => Below W2.heap.size W2 w') 10 (by kernel_rfl) ((Below.refl _ _).drew) (fun hHeld => ?_)
    try simp only [List.size_toArray, List.length_cons, List.length_nil, Nat.zero_add, Nat.reduceAdd, List.replicate, Array.replicate]
    refine wpAnyT_take (m := 10) (i := 0) (v := ?_) (by kernel_rfl) (by decide) rfl (by kernel_rfl) (by kernel_rfl) (by kernel_rfl) (fun _ _ _ h => h) (Or.inl ⟨by kernel_rfl, ?_⟩) (by assumption) ?_
    rotate_left
    · (intro w' hSw; have s0 := (hSw.cell (p := ⟨w.heap.size, 0, none⟩) pl).trans p_0; have s1 := (hSw.cell (p := ⟨w.heap.size, 1, none⟩) pl).trans p_1; have s2 : (Instr.lookup 62 (.map (some m)) (.agg #[.int .i64 p.1, .int .i64 p.2]) false).run Tryz.prog w' = .ok (.slice A len cap) w' := look_keep HC2.out HP.out hSw HGD.out HLN.out; go_simp; try with_reducible rfl)
    try simp only [List.getElem_toArray, List.getElem_cons_succ, List.getElem_cons_zero, Act.put, List.setIfInBounds_toArray, List.set_cons_zero, List.set_cons_succ]
    refine wpAnyT_take (m := 10) (i := 1) (v := ?_) (by kernel_rfl) (by decide) rfl (by kernel_rfl) (by kernel_rfl) (by kernel_rfl) (fun _ _ _ h => h) (Or.inl ⟨by kernel_rfl, ?_⟩) (by assumption) ?_
    rotate_left
    · (intro w' hSw; have s0 := (hSw.cell (p := ⟨w.heap.size, 0, none⟩) pl).trans p_0; have s1 := (hSw.cell (p := ⟨w.heap.size, 1, none⟩) pl).trans p_1; have s2 : (Instr.lookup 62 (.map (some m)) (.agg #[.int .i64 p.1, .int .i64 p.2]) false).run Tryz.prog w' = .ok (.slice A len cap) w' := look_keep HC2.out HP.out hSw HGD.out HLN.out; go_simp; try with_reducible rfl)
    try simp only [List.getElem_toArray, List.getElem_cons_succ, List.getElem_cons_zero, Act.put, List.setIfInBounds_toArray, List.set_cons_zero, List.set_cons_succ]
    refine wpAnyT_take (m := 10) (i := 2) (v := ?_) (by kernel_rfl) (by decide) rfl (by kernel_rfl) (by kernel_rfl) (by kernel_rfl) (fun _ _ _ h => h) (Or.inl ⟨by kernel_rfl, ?_⟩) (by assumption) ?_
    rotate_left
    · (intro w' hSw; have s0 := (hSw.cell (p := ⟨w.heap.size, 0, none⟩) pl).trans p_0; have s1 := (hSw.cell (p := ⟨w.heap.size, 1, none⟩) pl).trans p_1; have s2 : (Instr.lookup 62 (.map (some m)) (.agg #[.int .i64 p.1, .int .i64 p.2]) false).run Tryz.prog w' = .ok (.slice A len cap) w' := look_keep HC2.out HP.out hSw HGD.out HLN.out; go_simp; try with_reducible rfl)
    try simp only [List.getElem_toArray, List.getElem_cons_succ, List.getElem_cons_zero, Act.put, List.setIfInBounds_toArray, List.set_cons_zero, List.set_cons_succ]
    refine wpAnyT_take (m := 10) (i := 3) (v := ?_) (by kernel_rfl) (by decide) rfl (by kernel_rfl) (by kernel_rfl) (by kernel_rfl) (fun _ _ _ h => h) (Or.inl ⟨by kernel_rfl, ?_⟩) (by assumption) ?_
    rotate_left
    · (intro w' hSw; have s0 := (hSw.cell (p := ⟨w.heap.size, 0, none⟩) pl).trans p_0; have s1 := (hSw.cell (p := ⟨w.heap.size, 1, none⟩) pl).trans p_1; have s2 : (Instr.lookup 62 (.map (some m)) (.agg #[.int .i64 p.1, .int .i64 p.2]) false).run Tryz.prog w' = .ok (.slice A len cap) w' := look_keep HC2.out HP.out hSw HGD.out HLN.out; go_simp; try with_reducible rfl)
    try simp only [List.getElem_toArray, List.getElem_cons_succ, List.getElem_cons_zero, Act.put, List.setIfInBounds_toArray, List.set_cons_zero, List.set_cons_succ]
    refine wpAnyT_take (m := 10) (i := 4) (v := ?_) (by kernel_rfl) (by decide) rfl (by kernel_rfl) (by kernel_rfl) (by kernel_rfl) (fun _ _ _ h => h) (Or.inl ⟨by kernel_rfl, ?_⟩) (by assumption) ?_
    rotate_left
    · (intro w' hSw; have s0 := (hSw.cell (p := ⟨w.heap.size, 0, none⟩) pl).trans p_0; have s1 := (hSw.cell (p := ⟨w.heap.size, 1, none⟩) pl).trans p_1; have s2 : (Instr.lookup 62 (.map (some m)) (.agg #[.int .i64 p.1, .int .i64 p.2]) false).run Tryz.prog w' = .ok (.slice A len cap) w' := look_keep HC2.out HP.out hSw HGD.out HLN.out; go_simp; try with_reducible rfl)
    try simp only [List.getElem_toArray, List.getElem_cons_succ, List.getElem_cons_zero, Act.put, List.setIfInBounds_toArray, List.set_cons_zero, List.set_cons_succ]
    refine wpAnyT_take (m := 10) (i := 6) (v := ?_) (by kernel_rfl) (by decide) rfl (by kernel_rfl) (by kernel_rfl) (by kernel_rfl) (fun _ _ _ h => h) (Or.inl ⟨by kernel_rfl, ?_⟩) (by assumption) ?_
    rotate_left
    · (intro w' hSw; have s0 := (hSw.cell (p := ⟨w.heap.size, 0, none⟩) pl).trans p_0; have s1 := (hSw.cell (p := ⟨w.heap.size, 1, none⟩) pl).trans p_1; have s2 : (Instr.lookup 62 (.map (some m)) (.agg #[.int .i64 p.1, .int .i64 p.2]) false).run Tryz.prog w' = .ok (.slice A len cap) w' := look_keep HC2.out HP.out hSw HGD.out HLN.out; go_simp; try with_reducible rfl)
    try simp only [List.getElem_toArray, List.getElem_cons_succ, List.getElem_cons_zero, Act.put, List.setIfInBounds_toArray, List.set_cons_zero, List.set_cons_succ]
    refine wpAnyT_take (m := 10) (i := 7) (v := ?_) (by kernel_rfl) (by decide) rfl (by kernel_rfl) (by kernel_rfl) (by kernel_rfl) (fun _ _ _ h => h) (Or.inl ⟨by kernel_rfl, ?_⟩) (by assumption) ?_
    rotate_left
    · (intro w' hSw; have s0 := (hSw.cell (p := ⟨w.heap.size, 0, none⟩) pl).trans p_0; have s1 := (hSw.cell (p := ⟨w.heap.size, 1, none⟩) pl).trans p_1; have s2 : (Instr.lookup 62 (.map (some m)) (.agg #[.int .i64 p.1, .int .i64 p.2]) false).run Tryz.prog w' = .ok (.slice A len cap) w' := look_keep HC2.out HP.out hSw HGD.out HLN.out; go_simp; try with_reducible rfl)
    try simp only [List.getElem_toArray, List.getElem_cons_succ, List.getElem_cons_zero, Act.put, List.setIfInBounds_toArray, List.set_cons_zero, List.set_cons_succ]
    refine wpAnyT_take (m := 10) (i := 8) (v := ?_) (by kernel_rfl) (by decide) rfl (by kernel_rfl) (by kernel_rfl) (by kernel_rfl) (fun _ _ _ h => h) (Or.inl ⟨by kernel_rfl, ?_⟩) (by assumption) ?_
    rotate_left
    · (intro w' hSw; have s0 := (hSw.cell (p := ⟨w.heap.size, 0, none⟩) pl).trans p_0; have s1 := (hSw.cell (p := ⟨w.heap.size, 1, none⟩) pl).trans p_1; have s2 : (Instr.lookup 62 (.map (some m)) (.agg #[.int .i64 p.1, .int .i64 p.2]) false).run Tryz.prog w' = .ok (.slice A len cap) w' := look_keep HC2.out HP.out hSw HGD.out HLN.out; go_simp; try with_reducible rfl)
    try simp only [List.getElem_toArray, List.getElem_cons_succ, List.getElem_cons_zero, Act.put, List.setIfInBounds_toArray, List.set_cons_zero, List.set_cons_succ]
    refine wpAnyT_step (i := 5) (by kernel_rfl) rfl (fun K hK => ?_)
    go_simp
    (go_at_call 105; (with_reducible refine (Kin.callK (W := W2) gRw (cloneH_any _ (hdR R p) _ ((HLN.out ▸ HRD2.out).below gRw) (by rw [HLN.out]; omega))).mono ?_); rintro e w' ⟨z4, ⟨u, rfl, hu⟩, hz4, rfl⟩; skip)
    simp only []
    obtain ⟨g, hg0, cp, rfl⟩ : ∃ g, W2.heap.size ≤ g ∧ ∃ cp, u = .slice (some ⟨g, 0, none⟩) len cp := by
      rcases hu.2 with ⟨h', h''⟩ | ⟨g', cap', cur, h', hb, _⟩
      · exfalso; have := HLN.out; omega
      · exact ⟨g', by simpa using hb, cap', by rw [h', HLN.out]⟩
    obtain ⟨W4, hW4⟩ : ∃ W4, z4.1 = W4 := ⟨_, rfl⟩
    have hb4 := z4.2
    rw [hW4] at hu hb4 ⊢
    have HU := Lib.hid hu
    have HB4 := Lib.hid hb4
    clear hW4 hz4 hu
    refine hK.out _ _ (HB4.out) (fun hHeld2 => ?_)
    clear hK hHeld
    have hHeld := hHeld2
    clear hHeld2 K
    try simp only [List.getElem_toArray, List.getElem_cons_succ, List.getElem_cons_zero, Act.put, List.setIfInBounds_toArray, List.set_cons_zero, List.set_cons_succ]
    refine wpAnyT_step (i := 9) (by kernel_rfl) rfl (fun K hK => ?_)
    go_simp
    have hrow := HU.out
    rw [HLN.out] at hrow
    (go_at_call 104; (refine (delete_any _ _ g len cp k (hdR R p) hrow hil (by omega)).mono ?_); rintro e W5 ⟨rfl, ho5, hg5⟩)
    simp only []
    have hb5 : Below W2.heap.size W2 W5 := HB4.out.grown hg5 HB4.out.size (fun k e => by injection e with e; omega)
    have C5 := HC2.out.below hb5
    obtain ⟨W6, hup, hM6, hg6, hs6⟩ := C5.map.update ptKey Tryz.underlying62 (by unfold maxLen; omega) HP.out (.slice (some ⟨g, 0, none⟩) (len - 1) cp)
    have hup' : (Instr.mapUpdate 62 (.map (some m)) (.agg #[.int .i64 p.1, .int .i64 p.2]) (.slice (some ⟨g, 0, none⟩) (len - 1) cp)).run Tryz.prog W5 = .ok () W6 := hup
    have HB5 := Lib.hid hb5
    have HO5 := Lib.hid ho5
    have HM6 := Lib.hid hM6
    have HG6 := Lib.hid hg6
    refine hK.out _ _ (HB5.out) (fun hHeld2 => ?_)
    clear hK hHeld
    have hHeld := hHeld2
    clear hHeld2 K
    try simp only [List.getElem_toArray, List.getElem_cons_succ, List.getElem_cons_zero, Act.put, List.setIfInBounds_toArray, List.set_cons_zero, List.set_cons_succ]
    clear hup C5 ho5 hg5 hM6 hg6 hrow hb5 hHeld
    refine wpAnyT_last (by kernel_rfl) rfl (fun K hK => ?_)
    go_simp
    refine hK.out _ _ ?_
    refine wpAnyT_done (by kernel_rfl) ?_ _
    clear hK
    go_wp2_with fail
    go_ret
    have hel : (hdR R p).erase h = (hdR R p).eraseIdx k := List.erase_eq_eraseIdx_of_idxOf HK.out
    have hl9 : ((hdR R p).erase h).length = len - 1 := by rw [List.length_erase_of_mem HY.out, HLN.out]
    have ho9 : OwnH base W5 (.slice (some ⟨g, 0, none⟩) (len - 1) cp) ((hdR R p).erase h) := by
      have := own_base HO5.out (base' := base) (Nat.le_trans hbw HWW.out.size)
      rw [← hel, ← hl9] at this
      rw [← hl9]; exact this
    have hT := HC2.out.turn HP.out (L := (hdR R p).erase h) (w1 := W5) (w2 := W5) (by intro e; rw [e] at hl9; simp at hl9; omega) HGD.out (below_grownBy HB5.out) (World.grownBy.refl _ _) HG6.out HB5.out.size ho9 (.inr fun k hk => by injection hk with hk; simp only at hk; omega) HM6.out (by intro e; injection e with e; have := HWW.out.size; simp only at e; omega)
    refine ⟨rfl, ⟨_, hT.ext fun q hq => ?_⟩, grownBy_trans (below_grownBy HWW.out) (grownBy_trans (below_grownBy HB5.out) HG6.out)⟩
    rw [hdR_erase]
    by_cases e : q = p
    · simp [e]
    · simp [e]
end Go.Proofs.YtneelidbgigehaaGreat

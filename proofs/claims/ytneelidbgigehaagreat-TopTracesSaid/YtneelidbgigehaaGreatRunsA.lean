/- What the functions on runs return. (joined: RunsWalks RunsJoin RunsRef) -/
import Derived.Test.YtneelidbgigehaaGreatRows
import Derived.Test.YtneelidbgigehaaGreatPlain
import Derived.Test.YtneelidbgigehaaGreatBase
/- What the functions on runs return. -/
namespace Go.Proofs.YtneelidbgigehaaGreat
set_option linter.unusedSimpArgs false
set_option linter.unusedVariables false
open Go.RowKit Runs
attribute [local go_sem] Kin.cell Kin.frozen
abbrev rv (r : Run) : Value := .agg #[.int .i64 r.1, .int .i64 r.2]
def encRun (r : Run) : List Value := [.int .i64 r.1, .int .i64 r.2]
set_option maxHeartbeats 400000 in
theorem fits_any (r : Run) (w : World) :
    Calls Tryz.prog 89 #[rv r] w fun e w' => e = .returned (.bool (fits r)) ∧ Below w.heap.size w w' := by
  go_enter Tryz.func89, Tryz.ntmps89
  go_wp2
  all_goals
    go_ret
    exact ⟨ret_bool (by simp [fits, *] <;> omega), (by repeat (first | with_reducible (first | exact blA | exact blB | refine blC _ ?_ | refine blD ?_ ?_ _ | refine blE ?_ | refine blF _ ?_ | refine blG ?_ _ | refine blH ?_ | refine blI ?_ ?_ _) | (simp only [World.size_alloc]; omega) | (simp <;> omega)))⟩
theorem vstep_f1 {l : List Run} {k : Nat} {r : Run} (hr : l[k]? = some r) (h : r.2 ≤ r.1) : vstep l k = false := by
  have h' : decide (r.1 < r.2) = false := decide_eq_false (by omega)
  simp [vstep, hr, h']
theorem vstep_f2 {l : List Run} {k : Nat} {r : Run} (hr : l[k]? = some r) (h : (!fits r) = true) : vstep l k = false := by
  simp at h; simp [vstep, hr, h]
theorem vstep_f3 {l : List Run} {k : Nat} {r q : Run} (hr : l[k]? = some r) (hq : ∀ x, l[k - 1]? = some x → x = q) (h0 : 0 < k) (h : r.1 ≤ q.2) : vstep l k = false := by
  have hk : k < l.length := (List.getElem?_eq_some_iff.1 hr).1
  have hl : l[k - 1]? = some l[k - 1] := List.getElem?_eq_getElem (by omega)
  have := hq _ hl
  have h1 : decide (q.2 < r.1) = false := decide_eq_false (by omega)
  have h2 : (k == 0) = false := by simp; omega
  simp [vstep, hr, hl, this, h1, h2]
theorem vstep_t {l : List Run} {k : Nat} {r q : Run} (hr : l[k]? = some r) (hq : ∀ x, l[k - 1]? = some x → x = q) (h1 : ¬ r.2 ≤ r.1) (h2 : (!fits r) = false) (h3 : 0 < k → ¬ r.1 ≤ q.2) : vstep l k = true := by
  have hk : k < l.length := (List.getElem?_eq_some_iff.1 hr).1
  have hl : l[k - 1]? = some l[k - 1] := List.getElem?_eq_getElem (by omega)
  have := hq _ hl
  simp at h2
  simp only [vstep, hr, hl, this, h2, Bool.and_eq_true, Bool.or_eq_true, beq_iff_eq, decide_eq_true_eq]
  refine ⟨⟨by omega, trivial⟩, ?_⟩
  rcases Nat.eq_zero_or_pos k with h0 | h0
  · exact .inl h0
  · exact .inr (by have := h3 h0; omega)
theorem valid_false {l : List Run} {k : Nat} (hk : k < l.length) (h : vstep l k = false) : valid l = false := by
  simp only [valid, validTo, List.all_eq_false]
  exact ⟨k, by simpa using hk, by simp [h]⟩
theorem validTo_succ {l : List Run} {k : Nat} (h1 : validTo l k = true) (h : vstep l k = true) : validTo l (k + 1) = true := by
  simp only [validTo, List.range_succ, List.all_append, List.all_cons, List.all_nil, Bool.and_true, Bool.and_eq_true] at *
  exact ⟨h1, h⟩
set_option maxHeartbeats 1000000 in
theorem valid_any (v : Value) (l : List Run) (w : World) (h : Rd 2 encRun w v l) (hlen : l.length ≤ 9223372036854775807) :
    Calls Tryz.prog 53 #[v] w fun e w' => e = .returned (.bool (valid l)) ∧ Below w.heap.size w w' := by
  obtain ⟨A, cap, rfl, hcap, hopen⟩ := h.open_
  have HO := hopen
  clear hopen
  have Hopen : Hid (∀ i x, l[i]? = some x → ∃ b off, A = some ⟨b, off, none⟩ ∧ b < w.heap.size ∧
    ∀ i x, l[i]? = some x → ∀ j u, (encRun x)[j]? = some u → w.cell? ⟨b, off + i * 2 + j, none⟩ = some u) := HO
  clear HO h
  go_enter Tryz.func53, Tryz.ntmps53
  go_wp2
  go_loopw [7] (fun i wr => ∃ k : Nat, k ≤ l.length ∧ i = .int .i64 k ∧ Hid (validTo l k = true) ∧ ∃ z : Kin w, z.1 = wr) (fun i _ => l.length - (intOf i).toNat)
  case atStart => exact ⟨0, Nat.zero_le _, rfl, rfl, ⟨w, Below.refl _ _⟩, rfl⟩
  case round =>
    obtain ⟨k, hk, rfl, hval, z, rfl⟩ := hrel
    by_cases hlt : k < l.length
    · obtain ⟨r, hr⟩ : ∃ r, l[k]? = some r := ⟨_, List.getElem?_eq_getElem hlt⟩
      obtain ⟨b, off, rfl, hb, hcell⟩ := Hopen.out k r hr
      have hb' := z.lt hb
      have c0 : z.1.cell? ⟨b, off + k * 2, none⟩ = some (.int .i64 r.1) := by rw [z.cell hb]; exact hcell k r hr 0 _ rfl
      have c1 : z.1.cell? ⟨b, off + k * 2 + 1, none⟩ = some (.int .i64 r.2) := by rw [z.cell hb]; exact hcell k r hr 1 _ rfl
      obtain ⟨q, hq⟩ : ∃ q : Run, ∀ x, l[k - 1]? = some x → x = q := ⟨(l[k - 1]?).getD (0, 0), fun x hx => by simp [hx]⟩
      have cq : (0 : Int) < (k : Int) → z.1.cell? ⟨b, off + (k - 1) * 2 + 1, none⟩ = some (.int .i64 q.2) := fun h0 => by
        have hl : l[k - 1]? = some l[k - 1] := List.getElem?_eq_getElem (by omega)
        rw [z.cell hb]
        have := hcell (k - 1) _ hl 1 _ rfl
        rw [hq _ hl] at this
        exact this
      have Hq : Hid (∀ x, l[k - 1]? = some x → x = q) := hq
      have Hr : Hid (l[k]? = some r) := hr
      clear hr hcell hq Hopen
      have hb2 : b < z.1.heap.size + 1 := by omega
      go_wp2
      ((first | refine wp_region_kin _ (by kernel_rfl) (by kernel_rfl) ?_ | refine wp_region_kin0 (by kernel_rfl) (by kernel_rfl) ?_); (repeat' (first | go_big_quiet_step ((go_at_call 89; exact Kin.quiet _ (fits_any r _))) | ((refine wpQuiet_guard rfl rfl rfl rfl (fun hg => ?_) (fun hg => ?_)) <;> (fail_if_success (first | guard_hyp hg : true = true | guard_hyp hg : false = false)) <;> (try simp only [decide_eq_true_eq, decide_eq_false_iff_not] at hg) <;> simp only [Act.put, List.setIfInBounds_toArray, List.set_cons_zero, List.set_cons_succ]))); all_goals ((with_reducible refine wpQuiet_nil ?_); rintro _ ⟨z, rfl⟩))
      all_goals go_wp2
      all_goals first
        | (go_ret; refine ⟨ret_bool ?_, (by repeat (first | with_reducible (first | exact blA | exact blB | refine blC _ ?_ | refine blD ?_ ?_ _ | refine blE ?_ | refine blF _ ?_ | refine blG ?_ _ | refine blH ?_ | refine blI ?_ ?_ _) | (simp only [World.size_alloc]; omega) | (simp <;> omega)))⟩; refine (valid_false hlt ?_).symm; first | (refine vstep_f1 Hr.out ?_; omega) | (refine vstep_f2 Hr.out ?_; assumption) | (refine vstep_f3 Hr.out Hq.out ?_ ?_ <;> omega))
        | (go_roundw
           case rel =>
             refine ⟨k + 1, by omega, by go_num, validTo_succ hval.out (vstep_t Hr.out Hq.out (by omega) (by assumption) (by omega)), ⟨_, (by repeat (first | with_reducible (first | exact blA | exact blB | refine blC _ ?_ | refine blD ?_ ?_ _ | refine blE ?_ | refine blF _ ?_ | refine blG ?_ _ | refine blH ?_ | refine blI ?_ ?_ _) | (simp only [World.size_alloc]; omega) | (simp <;> omega)))⟩, rfl⟩
           case measure => simp [intOf]; omega)
    · go_wp2
      go_ret
      have : k = l.length := by omega
      exact ⟨ret_bool (by rw [valid, ← this]; exact hval.out.symm), (by repeat (first | with_reducible (first | exact blA | exact blB | refine blC _ ?_ | refine blD ?_ ?_ _ | refine blE ?_ | refine blF _ ?_ | refine blG ?_ _ | refine blH ?_ | refine blI ?_ ?_ _) | (simp only [World.size_alloc]; omega) | (simp <;> omega)))⟩
end Go.Proofs.YtneelidbgigehaaGreat
/- What join returns: the joined runs. -/
namespace Go.Proofs.YtneelidbgigehaaGreat
set_option linter.unusedSimpArgs false
set_option linter.unusedVariables false
open Go.RowKit Runs
attribute [local go_sem] Kin.cell Kin.frozen
theorem infoRun : (Tryz.prog.info? 69).map (fun i => (i.zero, i.size, i.bytes)) = some (some (.agg #[.int .i64 0, .int .i64 0]), 2, 16) := by kernel_rfl
theorem encRun_len (r : Run) : (encRun r).length = 2 := rfl
/-- the runs joined so far -/
def jnTo (l : List Run) (k : Nat) : List Run := jn (l.take k)
theorem jnTo_succ {l : List Run} {k : Nat} {r : Run} (h : l[k]? = some r) : jnTo l (k + 1) = jstep (jnTo l k) r := by
  unfold jnTo jn
  rw [List.take_add_one, h, List.foldl_append]; rfl
theorem jstep_len (out : List Run) (r : Run) : (jstep out r).length ≤ out.length + 1 := by
  unfold jstep; split
  · split
    · simp
    · simp
  · simp
theorem jnTo_len (l : List Run) (k : Nat) : (jnTo l k).length ≤ k := by
  have : ∀ (l out : List Run), (l.foldl jstep out).length ≤ out.length + l.length := by
    intro l
    induction l with
    | nil => intro out; simp
    | cons p l ih => intro out; have := ih (jstep out p); have := jstep_len out p; simp only [List.foldl_cons, List.length_cons]; omega
  have := this (l.take k) []
  simp only [List.length_nil, Nat.zero_add] at this
  exact Nat.le_trans this (by rw [List.length_take]; exact Nat.min_le_left _ _)
theorem jstep_nil (r : Run) : jstep [] r = [r] := rfl
theorem jstep_yes {E : List Run} {q r : Run} (h : r.1 ≤ q.2) : jstep (E ++ [q]) r = E ++ [(q.1, max q.2 r.2)] := by simp [jstep, h]
theorem jstep_no {E : List Run} {q r : Run} (h : ¬ r.1 ≤ q.2) : jstep (E ++ [q]) r = E ++ [q] ++ [r] := by simp [jstep, h]
theorem set_last (E : List Run) (q : Run) (x : Int) : ((E ++ [q]).flatMap encRun).set (E.length * 2 + 1) (.int .i64 x) = (E ++ [(q.1, x)]).flatMap encRun := by
  rw [List.flatMap_append, List.flatMap_append, List.set_append_right _ _ (by rw [flat_len encRun_len]; omega), flat_len encRun_len, show E.length * 2 + 1 - E.length * 2 = 1 by omega]
  rfl
set_option maxRecDepth 100000 in
set_option maxHeartbeats 4000000 in
theorem join_any (v : Value) (l : List Run) (w : World) (h : Rd 2 encRun w v l) (hlen : l.length ≤ 1099511627776) :
    Calls Tryz.prog 92 #[v] w fun e w' => (∃ u, e = .returned u ∧ w'.ownsRow w.heap.size 69 2 u (jn l).length ((jn l).flatMap encRun)) ∧ Below w.heap.size w w' := by
  obtain ⟨i0, hi, hz0, hz1, hz2⟩ := info_parts infoRun
  obtain ⟨A, cap, rfl, hcap, hopen⟩ := h.open_
  have Hopen : Hid (∀ (i : Nat) (x : Run), l[i]? = some x → ∃ b off, A = some ⟨b, off, none⟩ ∧ b < w.heap.size ∧
    ∀ (i : Nat) (x : Run), l[i]? = some x → ∀ (j : Nat) (u : Value), (encRun x)[j]? = some u → w.cell? ⟨b, off + i * 2 + j, none⟩ = some u) := hopen
  clear hopen h
  go_enter Tryz.func92, Tryz.ntmps92
  go_wp2
  go_loopw [3, 9] (fun o i wr => ∃ k : Nat, k ≤ l.length ∧ i = .int .i64 k ∧ ∃ z : Kin w, z.1 = wr ∧ wr.ownsRow w.heap.size 69 2 o (jnTo l k).length ((jnTo l k).flatMap encRun)) (fun _ i _ => l.length - (intOf i).toNat)
  case atStart => exact ⟨0, Nat.zero_le _, rfl, ⟨w, Below.refl _ _⟩, rfl, World.ownsRow_nil _ _ _ _⟩
  case round =>
    obtain ⟨k, hk, rfl, z, rfl, hown⟩ := hrel
    by_cases hlt : k < l.length
    · obtain ⟨r, hr⟩ : ∃ r, l[k]? = some r := ⟨_, List.getElem?_eq_getElem hlt⟩
      obtain ⟨b, off, rfl, hb, hcell⟩ := Hopen.out k r hr
      have hb' := z.lt hb
      have c0 : z.1.cell? ⟨b, off + k * 2, none⟩ = some (.int .i64 r.1) := by rw [z.cell hb]; exact hcell k r hr 0 _ rfl
      have c1 : z.1.cell? ⟨b, off + k * 2 + 1, none⟩ = some (.int .i64 r.2) := by rw [z.cell hb]; exact hcell k r hr 1 _ rfl
      have Hr : Hid (jnTo l (k + 1) = jstep (jnTo l k) r) := jnTo_succ hr
      have hJ := jnTo_len l k
      have hb2 : b < z.1.heap.size + 1 := by omega
      clear hr hcell Hopen
      generalize jnTo l k = E at hown hJ Hr
      rcases List.eq_nil_or_concat E with rfl | ⟨E0, q, hE⟩
      · have hrd := Rd.own encRun_len hown
        obtain ⟨A1, cap1, rfl, hcE, _⟩ := hrd.open_
        have HW : Hid (z.1.ownsRow w.heap.size 69 2 (.slice A1 ([] : List Run).length cap1) ([] : List Run).length (([] : List Run).flatMap encRun)) := hown
        clear hown hrd
        simp only [List.length_nil] at HW ⊢
        go_wp2
        ((first | refine wp_region_kin _ (by kernel_rfl) (by kernel_rfl) ?_ | refine wp_region_kin0 (by kernel_rfl) (by kernel_rfl) ?_); (repeat' (first | go_big_quiet_step (fail) | ((refine wpQuiet_guard rfl rfl rfl rfl (fun hg => ?_) (fun hg => ?_)) <;> (fail_if_success (first | guard_hyp hg : true = true | guard_hyp hg : false = false)) <;> (try simp only [decide_eq_true_eq, decide_eq_false_iff_not] at hg) <;> simp only [Act.put, List.setIfInBounds_toArray, List.set_cons_zero, List.set_cons_succ]))); all_goals ((with_reducible refine wpQuiet_nil ?_); rintro _ ⟨z, rfl⟩))
        all_goals go_wp2_with (at_builtin; have hx := (own_below (HW.out.alloc (.cells #[.int .i64 r.1, .int .i64 r.2] 69)) z.2).alloc (.cells #[.int .i64 r.1, .int .i64 r.2] 69); refine wpList_append_own _ rfl _ _ 42 rfl w.heap.size 69 i0 (.agg #[.int .i64 0,.int .i64 0]) 2 16 Tryz.underlying42 hi hz0 hz1 hz2 rfl (by decide) _ _ _ rfl hx ⟨_, 0, none⟩ 1 1 [.int .i64 r.1, .int .i64 r.2] rfl rfl (cell2_new _ _ _ _) (one2 _ _) (by unfold maxLen; omega) (by omega) (by repeat (first | with_reducible exact Nat.le_refl _ | assumption | with_reducible refine le_alloc ?_ _ | with_reducible refine le_drew ?_ | with_reducible refine Kin.le _ ?_ | assumption | omega | (simp only [World.size_alloc]; omega))) ?_; intro v' w1 hown' hgrow hnil; (obtain ⟨y, rfl⟩ : ∃ y : Kin w, y.1 = w1 := ⟨⟨w1, own_grown (base := w.heap.size) (by repeat (first | with_reducible (first | exact blA | exact blB | refine blC _ ?_ | refine blD ?_ ?_ _ | refine blE ?_ | refine blF _ ?_ | refine blG ?_ _ | refine blH ?_ | refine blI ?_ ?_ _) | (simp only [World.size_alloc]; omega) | (simp <;> omega))) hx hgrow (Nat.le_refl _) (by repeat (first | with_reducible exact Nat.le_refl _ | assumption | with_reducible refine le_alloc ?_ _ | with_reducible refine le_drew ?_ | with_reducible refine Kin.le _ ?_ | assumption | omega | (simp only [World.size_alloc]; omega)))⟩, rfl⟩); clear hgrow hnil hx)
        go_roundw
        case rel => exact ⟨k + 1, by omega, by go_num, y, rfl, by rw [Hr.out]; exact hown'⟩
        case measure => simp [intOf]; omega
      · rw [List.concat_eq_append] at hE
        subst hE
        rcases hown.2 with ⟨_, h0⟩ | ⟨g, cap1, cur, rfl, hbase, hgb, hn, hm, hs, ht⟩
        · simp at h0
        · have hg : g < z.1.heap.size := (Array.getElem?_eq_some_iff.1 hgb).1
          have g0 : z.1.cell? ⟨g, E0.length * 2, none⟩ = some (.int .i64 q.1) := by rw [hown.cellAt _ (by rw [List.length_append]; simp only [List.length_cons, List.length_nil]; omega)]; exact flat_get encRun_len _ E0.length q (by simp) 0 _ rfl
          have g1 : z.1.cell? ⟨g, E0.length * 2 + 1, none⟩ = some (.int .i64 q.2) := by rw [hown.cellAt _ (by rw [List.length_append]; simp only [List.length_cons, List.length_nil]; omega)]; exact flat_get encRun_len _ E0.length q (by simp) 1 _ rfl
          have f1 : z.1.frozen? ⟨g, E0.length * 2 + 1, none⟩ = false := hown.frozenAt _
          have HW : Hid (z.1.ownsRow w.heap.size 69 2 (.slice (some ⟨g, 0, none⟩) (E0 ++ [q]).length cap1) (E0 ++ [q]).length ((E0 ++ [q]).flatMap encRun)) := hown
          clear hown hgb hs ht
          obtain ⟨m, hm⟩ : ∃ m, m = E0.length := ⟨_, rfl⟩
          have hl : (E0 ++ [q]).length = m + 1 := by simp [hm]
          rw [← hm] at g0 g1 f1
          rw [hl] at HW hJ hn ⊢
          have Hm : Hid (m = E0.length) := hm
          clear hm hl
          have hg2 : g < z.1.heap.size + 1 := by omega
          go_wp2
          ((first | refine wp_region_kin _ (by kernel_rfl) (by kernel_rfl) ?_ | refine wp_region_kin0 (by kernel_rfl) (by kernel_rfl) ?_); (repeat' (first | go_big_quiet_step (fail) | ((refine wpQuiet_guard rfl rfl rfl rfl (fun hg => ?_) (fun hg => ?_)) <;> (fail_if_success (first | guard_hyp hg : true = true | guard_hyp hg : false = false)) <;> (try simp only [decide_eq_true_eq, decide_eq_false_iff_not] at hg) <;> simp only [Act.put, List.setIfInBounds_toArray, List.set_cons_zero, List.set_cons_succ]))); all_goals ((with_reducible refine wpQuiet_nil ?_); rintro _ ⟨z, rfl⟩))
          all_goals go_wp2_with (at_builtin; have hx := (own_below (HW.out.alloc (.cells #[.int .i64 r.1, .int .i64 r.2] 69)) z.2).alloc (.cells #[.int .i64 r.1, .int .i64 r.2] 69); refine wpList_append_own _ rfl _ _ 42 rfl w.heap.size 69 i0 (.agg #[.int .i64 0,.int .i64 0]) 2 16 Tryz.underlying42 hi hz0 hz1 hz2 rfl (by decide) _ _ _ rfl hx ⟨_, 0, none⟩ 1 1 [.int .i64 r.1, .int .i64 r.2] rfl rfl (cell2_new _ _ _ _) (one2 _ _) (by unfold maxLen; omega) (by omega) (by repeat (first | with_reducible exact Nat.le_refl _ | assumption | with_reducible refine le_alloc ?_ _ | with_reducible refine le_drew ?_ | with_reducible refine Kin.le _ ?_ | assumption | omega | (simp only [World.size_alloc]; omega))) ?_; intro v' w1 hown' hgrow hnil; (obtain ⟨y, rfl⟩ : ∃ y : Kin w, y.1 = w1 := ⟨⟨w1, own_grown (base := w.heap.size) (by repeat (first | with_reducible (first | exact blA | exact blB | refine blC _ ?_ | refine blD ?_ ?_ _ | refine blE ?_ | refine blF _ ?_ | refine blG ?_ _ | refine blH ?_ | refine blI ?_ ?_ _) | (simp only [World.size_alloc]; omega) | (simp <;> omega))) hx hgrow (Nat.le_refl _) (by repeat (first | with_reducible exact Nat.le_refl _ | assumption | with_reducible refine le_alloc ?_ _ | with_reducible refine le_drew ?_ | with_reducible refine Kin.le _ ?_ | assumption | omega | (simp only [World.size_alloc]; omega)))⟩, rfl⟩); clear hgrow hnil hx)
          · go_region
            go_wp2
            go_roundw
            case rel => exact ⟨k + 1, by omega, by go_num, ⟨World.drew _, (by repeat (first | with_reducible (first | exact blA | exact blB | refine blC _ ?_ | refine blD ?_ ?_ _ | refine blE ?_ | refine blF _ ?_ | refine blG ?_ _ | refine blH ?_ | refine blI ?_ ?_ _) | (simp only [World.size_alloc]; omega) | (simp <;> omega)))⟩, rfl, by rw [Hr.out, jstep_yes (by omega), List.length_append, ← Hm.out, ← max_if, ← set_last, ← Hm.out]; exact ((own_below (HW.out.alloc _) z.2).stored (m * 2 + 1) _).1.drew⟩
            case measure => simp [intOf]; omega
          · go_roundw
            case rel => exact ⟨k + 1, by omega, by go_num, y, rfl, by rw [Hr.out, jstep_no (by omega), List.length_append, List.length_append, ← Hm.out, List.flatMap_append]; simpa [encRun] using hown'⟩
            case measure => simp [intOf]; omega
    · go_wp2
      go_ret
      have hk4 : k = l.length := by omega
      have e : jnTo l k = jn l := by rw [hk4, jnTo, List.take_length]
      rw [e] at hown
      exact ⟨⟨_, rfl, hown⟩, (by repeat (first | with_reducible (first | exact blA | exact blB | refine blC _ ?_ | refine blD ?_ ?_ _ | refine blE ?_ | refine blF _ ?_ | refine blG ?_ _ | refine blH ?_ | refine blI ?_ ?_ _) | (simp only [World.size_alloc]; omega) | (simp <;> omega)))⟩
end Go.Proofs.YtneelidbgigehaaGreat
/- What the chapter's definitions on runs return: insert, bounds, in. -/
namespace Go.Proofs.YtneelidbgigehaaGreat
set_option linter.unusedSimpArgs false
set_option linter.unusedVariables false
open Go.RowKit Runs
attribute [local go_sem] Kin.cell Kin.frozen Kin.lt0 Kin.lt1 Kin.lt2
theorem insI_no {l : List Int} {x : Int} {k : Nat} {r : Int} {E : List Int} (HE : (E, false) = insTo l x k) (h : l[k]? = some r) (hx : r < x) : insTo l x (k + 1) = (E ++ [r], false) := by
  rw [insTo_succ h, ← HE, istep, if_neg (by simp; omega)]
theorem insI_lt {l : List Int} {x : Int} {k : Nat} {r : Int} {E : List Int} (HE : (E, false) = insTo l x k) (h : l[k]? = some r) (hx : x < r) : insTo l x (k + 1) = (E ++ [x] ++ [r], true) := by
  rw [insTo_succ h, ← HE, istep, if_pos (by simp; omega), if_pos hx]
theorem insI_eq {l : List Int} {x : Int} {k : Nat} {r : Int} {E : List Int} (HE : (E, false) = insTo l x k) (h : l[k]? = some r) (h1 : x ≤ r) (h2 : r ≤ x) : insTo l x (k + 1) = (E ++ [r], true) := by
  rw [insTo_succ h, ← HE, istep, if_pos (by simp; omega), if_neg (by omega)]
theorem insI_done {l : List Int} {x : Int} {k : Nat} {r : Int} {E : List Int} (HE : (E, true) = insTo l x k) (h : l[k]? = some r) : insTo l x (k + 1) = (E ++ [r], true) := by
  rw [insTo_succ h, ← HE, istep, if_neg (by simp)]
theorem oneR : OneC encRun := fun x u hu => by simp [encRun] at hu; rcases hu with rfl | rfl <;> rfl
theorem mem_hit {l : List Run} {k : Nat} {r : Run} {x : Int} (h : l[k]? = some r) (h1 : r.1 ≤ x) (h2 : x < r.2) : mem l x = true := mem_iff.2 ⟨r, List.mem_of_getElem? h, h1, h2⟩
theorem mem_take_no {l : List Run} {k : Nat} {r : Run} {x : Int} (h : l[k]? = some r) (hm : mem (l.take k) x = false) (h1 : ¬ (r.1 ≤ x ∧ x < r.2)) : mem (l.take (k + 1)) x = false := by
  rw [List.take_add_one, h, mem_append, hm]
  simp [mem, inR]; omega
theorem Rd.take {α : Type} {k : Nat} {enc : α → List Value} {W : World} {A : Option Addr} {n c m : Nat} {xs : List α} (h : Rd k enc W (.slice A n c) xs) (hm : m ≤ n) : Rd k enc W (.slice A m c) (xs.take m) := by
  obtain ⟨A', cap, hv, hc, h⟩ := h
  injection hv with h1 h2 h3
  subst h1 h2 h3
  refine ⟨A, c, by rw [List.length_take, Nat.min_eq_left hm], by rw [List.length_take]; omega, ?_⟩
  rcases h with h | ⟨b, off, hA, hlt, hc⟩
  · left; subst h; simp
  · right; refine ⟨b, off, hA, hlt, fun i x hx => hc i x ?_⟩
    rw [List.getElem?_take] at hx
    split at hx
    · exact hx
    · cases hx
theorem bstep_yes {b : List Int} {r : Run} (h : r.1 < r.2) : bstep b r = ins (ins b r.1) r.2 := if_pos h
theorem bstep_no {b : List Int} {r : Run} (h : r.2 ≤ r.1) : bstep b r = b := if_neg (by omega)
end Go.Proofs.YtneelidbgigehaaGreat

/- What the functions on runs return. -/
import Derived.Test.YtfoedkdmckhihaaRows
import Derived.Test.YtfoedkdmckhihaaRunsMath
namespace Go.Proofs.Ytfoedkdmckhihaa
set_option linter.unusedSimpArgs false
set_option linter.unusedVariables false
open Go.RowKit Runs
attribute [local go_sem] Kin.cell Kin.frozen
abbrev rv (r : Run) : Value := .agg #[.int .i64 r.1, .int .i64 r.2]
def encRun (r : Run) : List Value := [.int .i64 r.1, .int .i64 r.2]
set_option maxHeartbeats 400000 in
theorem fits_any (r : Run) (w : World) :
    Calls Try.prog 73 #[rv r] w fun e w' => e = .returned (.bool (fits r)) ∧ Below w.heap.size w w' := by
  go_enter Try.func73, Try.ntmps73
  go_wp2
  all_goals
    go_ret
    exact ⟨ret_bool (by simp [fits, *] <;> omega), (by repeat (first | with_reducible exact Below.refl _ _ | with_reducible exact Nat.le_refl _ | with_reducible refine Kin.below _ ?_ | with_reducible refine Below.alloc ?_ ?_ _ | with_reducible refine Below.drew ?_ | with_reducible refine Kin.le _ ?_ | with_reducible refine le_alloc ?_ _ | with_reducible refine le_drew ?_ | with_reducible refine Below.setCell ?_ ?_ _ | with_reducible exact Nat.le_refl _ | (simp only [World.size_alloc]; omega) | (simp <;> omega)))⟩
theorem vstep_f1 {l : List Run} {k : Nat} {r : Run} (hr : l[k]? = some r) (h : r.2 ≤ r.1) : vstep l k = false := by
  have h' : decide (r.1 < r.2) = false := decide_eq_false (by omega)
  simp [vstep, hr, h']
theorem vstep_f2 {l : List Run} {k : Nat} {r : Run} (hr : l[k]? = some r) (h : (!fits r) = true) : vstep l k = false := by
  simp at h; simp [vstep, hr, h]
theorem vstep_f3 {l : List Run} {k : Nat} {r q : Run} (hr : l[k]? = some r) (hq : ∀ x, l[k - 1]? = some x → x = q) (h0 : 0 < k) (h : r.1 ≤ q.2) : vstep l k = false := by
  have hk : k < l.length := (List.getElem?_eq_some_iff.1 hr).1
  have hl : l[k - 1]? = some l[k - 1] := List.getElem?_eq_getElem (by omega)
  have := hq _ hl
  have h1 : decide (q.2 < r.1) = false := decide_eq_false (by omega)
  have h2 : (k == 0) = false := by simp; omega
  simp [vstep, hr, hl, this, h1, h2]
theorem vstep_t {l : List Run} {k : Nat} {r q : Run} (hr : l[k]? = some r) (hq : ∀ x, l[k - 1]? = some x → x = q) (h1 : ¬ r.2 ≤ r.1) (h2 : (!fits r) = false) (h3 : 0 < k → ¬ r.1 ≤ q.2) : vstep l k = true := by
  have hk : k < l.length := (List.getElem?_eq_some_iff.1 hr).1
  have hl : l[k - 1]? = some l[k - 1] := List.getElem?_eq_getElem (by omega)
  have := hq _ hl
  simp at h2
  simp only [vstep, hr, hl, this, h2, Bool.and_eq_true, Bool.or_eq_true, beq_iff_eq, decide_eq_true_eq]
  refine ⟨⟨by omega, trivial⟩, ?_⟩
  rcases Nat.eq_zero_or_pos k with h0 | h0
  · exact .inl h0
  · exact .inr (by have := h3 h0; omega)
theorem valid_false {l : List Run} {k : Nat} (hk : k < l.length) (h : vstep l k = false) : valid l = false := by
  simp only [valid, validTo, List.all_eq_false]
  exact ⟨k, by simpa using hk, by simp [h]⟩
theorem validTo_succ {l : List Run} {k : Nat} (h1 : validTo l k = true) (h : vstep l k = true) : validTo l (k + 1) = true := by
  simp only [validTo, List.range_succ, List.all_append, List.all_cons, List.all_nil, Bool.and_true, Bool.and_eq_true] at *
  exact ⟨h1, h⟩
set_option maxHeartbeats 1000000 in
theorem valid_any (v : Value) (l : List Run) (w : World) (h : Rd 2 encRun w v l) (hlen : l.length ≤ 1099511627776) :
    Calls Try.prog 52 #[v] w fun e w' => e = .returned (.bool (valid l)) ∧ Below w.heap.size w w' := by
  obtain ⟨A, cap, rfl, hcap, hopen⟩ := h.open_
  have HO := hopen
  clear hopen
  have Hopen : Hid (∀ i x, l[i]? = some x → ∃ b off, A = some ⟨b, off, none⟩ ∧ b < w.heap.size ∧
    ∀ i x, l[i]? = some x → ∀ j u, (encRun x)[j]? = some u → w.cell? ⟨b, off + i * 2 + j, none⟩ = some u) := HO
  clear HO h
  go_enter Try.func52, Try.ntmps52
  go_wp2
  go_loopw [7] (fun i wr => ∃ k : Nat, k ≤ l.length ∧ i = .int .i64 k ∧ Hid (validTo l k = true) ∧ ∃ z : Kin w, z.1 = wr) (fun i _ => l.length - (intOf i).toNat)
  case atStart => exact ⟨0, Nat.zero_le _, rfl, rfl, ⟨w, Below.refl _ _⟩, rfl⟩
  case round =>
    obtain ⟨k, hk, rfl, hval, z, rfl⟩ := hrel
    by_cases hlt : k < l.length
    · obtain ⟨r, hr⟩ : ∃ r, l[k]? = some r := ⟨_, List.getElem?_eq_getElem hlt⟩
      obtain ⟨b, off, rfl, hb, hcell⟩ := Hopen.out k r hr
      have hb' := z.lt hb
      have c0 : z.1.cell? ⟨b, off + k * 2, none⟩ = some (.int .i64 r.1) := by rw [z.cell hb]; exact hcell k r hr 0 _ rfl
      have c1 : z.1.cell? ⟨b, off + k * 2 + 1, none⟩ = some (.int .i64 r.2) := by rw [z.cell hb]; exact hcell k r hr 1 _ rfl
      obtain ⟨q, hq⟩ : ∃ q : Run, ∀ x, l[k - 1]? = some x → x = q := ⟨(l[k - 1]?).getD (0, 0), fun x hx => by simp [hx]⟩
      have cq : (0 : Int) < (k : Int) → z.1.cell? ⟨b, off + (k - 1) * 2 + 1, none⟩ = some (.int .i64 q.2) := fun h0 => by
        have hl : l[k - 1]? = some l[k - 1] := List.getElem?_eq_getElem (by omega)
        rw [z.cell hb]
        have := hcell (k - 1) _ hl 1 _ rfl
        rw [hq _ hl] at this
        exact this
      have Hq : Hid (∀ x, l[k - 1]? = some x → x = q) := hq
      have Hr : Hid (l[k]? = some r) := hr
      clear hr hcell hq Hopen
      have hb2 : b < z.1.heap.size + 1 := by omega
      go_wp2
      ((first | refine wp_region_kin _ (by kernel_rfl) (by kernel_rfl) ?_ | refine wp_region_kin0 (by kernel_rfl) (by kernel_rfl) ?_); (repeat' (first | go_big_quiet_step ((go_at_call 73; exact Kin.quiet _ (fits_any r _))) | ((refine wpQuiet_guard rfl rfl rfl rfl (fun hg => ?_) (fun hg => ?_)) <;> (try simp only [decide_eq_true_eq, decide_eq_false_iff_not] at hg) <;> simp only [Act.put, List.setIfInBounds_toArray, List.set_cons_zero, List.set_cons_succ]))); all_goals ((with_reducible refine wpQuiet_nil ?_); rintro _ ⟨z, rfl⟩))
      all_goals go_wp2
      all_goals first
        | (go_ret; refine ⟨ret_bool ?_, (by repeat (first | with_reducible exact Below.refl _ _ | with_reducible exact Nat.le_refl _ | with_reducible refine Kin.below _ ?_ | with_reducible refine Below.alloc ?_ ?_ _ | with_reducible refine Below.drew ?_ | with_reducible refine Kin.le _ ?_ | with_reducible refine le_alloc ?_ _ | with_reducible refine le_drew ?_ | with_reducible refine Below.setCell ?_ ?_ _ | with_reducible exact Nat.le_refl _ | (simp only [World.size_alloc]; omega) | (simp <;> omega)))⟩; refine (valid_false hlt ?_).symm; first | (refine vstep_f1 Hr.out ?_; omega) | (refine vstep_f2 Hr.out ?_; assumption) | (refine vstep_f3 Hr.out Hq.out ?_ ?_ <;> omega))
        | (go_roundw
           case rel =>
             refine ⟨k + 1, by omega, by go_num, validTo_succ hval.out (vstep_t Hr.out Hq.out (by omega) (by assumption) (by omega)), ⟨_, (by repeat (first | with_reducible exact Below.refl _ _ | with_reducible exact Nat.le_refl _ | with_reducible refine Kin.below _ ?_ | with_reducible refine Below.alloc ?_ ?_ _ | with_reducible refine Below.drew ?_ | with_reducible refine Kin.le _ ?_ | with_reducible refine le_alloc ?_ _ | with_reducible refine le_drew ?_ | with_reducible refine Below.setCell ?_ ?_ _ | with_reducible exact Nat.le_refl _ | (simp only [World.size_alloc]; omega) | (simp <;> omega)))⟩, rfl⟩
           case measure => simp [intOf]; omega)
    · go_wp2
      go_ret
      have : k = l.length := by omega
      exact ⟨ret_bool (by rw [valid, ← this]; exact hval.out.symm), (by repeat (first | with_reducible exact Below.refl _ _ | with_reducible exact Nat.le_refl _ | with_reducible refine Kin.below _ ?_ | with_reducible refine Below.alloc ?_ ?_ _ | with_reducible refine Below.drew ?_ | with_reducible refine Kin.le _ ?_ | with_reducible refine le_alloc ?_ _ | with_reducible refine le_drew ?_ | with_reducible refine Below.setCell ?_ ?_ _ | with_reducible exact Nat.le_refl _ | (simp only [World.size_alloc]; omega) | (simp <;> omega)))⟩
end Go.Proofs.Ytfoedkdmckhihaa

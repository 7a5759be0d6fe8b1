/- Simplify keeps the area: plain laws. -/
import Derived.Test.YteadnlodccnfcaaCtrSimM
import Derived.Test.YteadnlodccnfcaaPlanarArea
namespace Go.Proofs.Yteadnlodccnfcaa
set_option linter.unusedSimpArgs false
set_option linter.unusedVariables false
open Planar
def det (a b : Pt) : Int := a.1 * b.2 - a.2 * b.1
theorem det_self (a : Pt) : det a a = 0 := by unfold det; rw [Int.mul_comm a.2 a.1]; omega
theorem det_anti (a b : Pt) : det a b = - det b a := by unfold det; rw [Int.mul_comm b.1, Int.mul_comm b.2]; omega
theorem crs_det (a b c : Pt) : crs a b c = det a b + det b c - det a c := by
  unfold crs det
  simp only [Int.sub_mul, Int.mul_sub]
  rw [Int.mul_comm b.1 a.2, Int.mul_comm b.2 a.1, Int.mul_comm a.1 a.2]
  omega
theorem turn_zero {a b c : Pt} (ha : vld a = true) (hb : vld b = true) (hc : vld c = true) (h : turn a b c = 0) : det a b + det b c = det a c := by
  have h1 := crs_det a b c
  have h2 : crs a b c = 0 := by
    unfold turn cross sgn at h
    simp only [ha, hb, hc, Bool.and_self, if_true] at h
    split at h <;> (try split at h) <;> omega
  omega
theorem term_det (l : List Pt) (i : Nat) : areaTerm l i = det (ptAt l i) (ptAt l ((i + 1) % l.length)) := rfl
theorem area_erase_pos {l : List Pt} {k : Nat} (h0 : 0 < k) (hk : k < l.length) (hd : det (ptAt l (k - 1)) (ptAt l k) + det (ptAt l k) (ptAt l ((k + 1) % l.length)) = det (ptAt l (k - 1)) (ptAt l ((k + 1) % l.length))) :
    areaTo (l.eraseIdx k) (l.length - 1) = areaTo l l.length := by
  have hl : (l.eraseIdx k).length = l.length - 1 := by rw [List.length_eraseIdx, if_pos hk]
  have h1 : ∀ j, j ≤ k - 1 → areaTo (l.eraseIdx k) j = areaTo l j := by
    intro j
    induction j with
    | zero => intro _; rfl
    | succ j ih =>
      intro hj
      show areaTo _ j + areaTerm _ j = areaTo _ j + areaTerm _ j
      rw [ih (by omega), term_det, term_det, hl, Nat.mod_eq_of_lt (show j + 1 < l.length - 1 by omega), Nat.mod_eq_of_lt (show j + 1 < l.length by omega), ptAt_erase_lt (show j < k by omega), ptAt_erase_lt (show j + 1 < k by omega)]
  have hnext : ∀ j, k ≤ j → j < l.length → ptAt (l.eraseIdx k) (j % (l.length - 1)) = ptAt l ((j + 1) % l.length) := by
    intro j hj hjl
    by_cases e : j + 1 = l.length
    · rw [show j % (l.length - 1) = 0 by rw [show j = l.length - 1 by omega, Nat.mod_self], e, Nat.mod_self, ptAt_erase_lt h0]
    · rw [Nat.mod_eq_of_lt (show j < l.length - 1 by omega), Nat.mod_eq_of_lt (show j + 1 < l.length by omega), ptAt_erase_ge hj]
  have h2 : areaTo (l.eraseIdx k) k = areaTo l (k + 1) := by
    obtain ⟨m, rfl⟩ : ∃ m, k = m + 1 := ⟨k - 1, by omega⟩
    have e1 : areaTo (l.eraseIdx (m + 1)) (m + 1) = areaTo (l.eraseIdx (m + 1)) m + areaTerm (l.eraseIdx (m + 1)) m := rfl
    have e2 : areaTo l (m + 1 + 1) = areaTo l m + areaTerm l m + areaTerm l (m + 1) := rfl
    have e3 := h1 m (by omega)
    have e4 : areaTerm (l.eraseIdx (m + 1)) m = det (ptAt l m) (ptAt l ((m + 1 + 1) % l.length)) := by
      rw [term_det, hl, hnext (m + 1) (Nat.le_refl _) hk, ptAt_erase_lt (show m < m + 1 by omega)]
    have e5 : areaTerm l m = det (ptAt l m) (ptAt l (m + 1)) := by rw [term_det, Nat.mod_eq_of_lt hk]
    have e6 := term_det l (m + 1)
    simp only [Nat.add_sub_cancel] at hd
    rw [e1, e2, e3, e4, e5, e6]; omega
  have h3 : ∀ d, k + d ≤ l.length - 1 → areaTo (l.eraseIdx k) (k + d) = areaTo l (k + d + 1) := by
    intro d
    induction d with
    | zero => intro _; exact h2
    | succ d ih =>
      intro hd
      show areaTo _ (k + d) + areaTerm _ (k + d) = areaTo l (k + d + 1) + areaTerm l (k + d + 1)
      rw [ih (by omega), term_det, term_det, hl, hnext (k + d + 1) (by omega) (by omega), ptAt_erase_ge (show k ≤ k + d by omega)]
  have := h3 (l.length - 1 - k) (by omega)
  rw [show k + (l.length - 1 - k) = l.length - 1 by omega, show l.length - 1 + 1 = l.length by omega] at this
  exact this
theorem area_erase_zero {l : List Pt} (h2 : 2 ≤ l.length) (hd : det (ptAt l (l.length - 1)) (ptAt l 0) + det (ptAt l 0) (ptAt l (1 % l.length)) = det (ptAt l (l.length - 1)) (ptAt l (1 % l.length))) :
    areaTo (l.eraseIdx 0) (l.length - 1) = areaTo l l.length := by
  have hl : (l.eraseIdx 0).length = l.length - 1 := by rw [List.length_eraseIdx, if_pos (by omega)]
  have h1m : 1 % l.length = 1 := Nat.mod_eq_of_lt (by omega)
  rw [h1m] at hd
  have h1 : ∀ j, j ≤ l.length - 2 → areaTo (l.eraseIdx 0) j = areaTo l (j + 1) - det (ptAt l 0) (ptAt l 1) := by
    intro j
    induction j with
    | zero =>
      intro _
      show (0 : Int) = 0 + areaTerm l 0 - _
      rw [term_det, show (0 + 1) % l.length = 1 from h1m]; omega
    | succ j ih =>
      intro hj
      show areaTo _ j + areaTerm _ j = areaTo l (j + 1) + areaTerm l (j + 1) - _
      rw [ih (by omega), term_det, term_det, hl, Nat.mod_eq_of_lt (show j + 1 < l.length - 1 by omega), Nat.mod_eq_of_lt (show j + 1 + 1 < l.length by omega), ptAt_erase_ge (show 0 ≤ j by omega), ptAt_erase_ge (show 0 ≤ j + 1 by omega)]; omega
  obtain ⟨m, hm⟩ : ∃ m, l.length = m + 2 := ⟨l.length - 2, by omega⟩
  have e0 := h1 m (by omega)
  have e1 : areaTo (l.eraseIdx 0) (m + 1) = areaTo (l.eraseIdx 0) m + areaTerm (l.eraseIdx 0) m := rfl
  have e2 : areaTo l (m + 2) = areaTo l (m + 1) + areaTerm l (m + 1) := rfl
  have e3 : areaTerm (l.eraseIdx 0) m = det (ptAt l (m + 1)) (ptAt l 1) := by
    rw [term_det, hl, hm, show m + 2 - 1 = m + 1 by omega, Nat.mod_self, ptAt_erase_ge (show 0 ≤ m by omega), ptAt_erase_ge (Nat.le_refl 0)]
  have e4 : areaTerm l (m + 1) = det (ptAt l (m + 1)) (ptAt l 0) := by rw [term_det, hm, show m + 1 + 1 = m + 2 from rfl, Nat.mod_self]
  rw [hm] at hd ⊢
  simp only [show m + 2 - 1 = m + 1 by omega] at hd ⊢
  rw [e1, e2, e0, e3, e4]; omega
theorem area_erase {l : List Pt} {k : Nat} (hv : allVld l = true) (hk : k < l.length) (hf : flatAt l k = true) : areaTo (l.eraseIdx k) (l.eraseIdx k).length = areaTo l l.length := by
  have hl : (l.eraseIdx k).length = l.length - 1 := by rw [List.length_eraseIdx, if_pos hk]
  have hvd : ∀ i, i < l.length → vld (ptAt l i) = true := fun i hi => by
    have e := List.getElem?_eq_getElem hi
    rw [ptAt_some e]; exact allVld_at hv e
  have hf' : turn (ptAt l ((k + l.length - 1) % l.length)) (ptAt l k) (ptAt l ((k + 1) % l.length)) = 0 := by
    unfold flatAt at hf; exact of_decide_eq_true hf
  have hd := turn_zero (hvd _ (Nat.mod_lt _ (by omega))) (hvd _ hk) (hvd _ (Nat.mod_lt _ (by omega))) hf'
  rw [hl]
  by_cases h0 : 0 < k
  · rw [show (k + l.length - 1) % l.length = k - 1 by rw [show k + l.length - 1 = (k - 1) + l.length by omega, Nat.add_mod_right, Nat.mod_eq_of_lt (by omega)]] at hd
    exact area_erase_pos h0 hk hd
  · obtain rfl : k = 0 := by omega
    by_cases h2 : 2 ≤ l.length
    · rw [show (0 + l.length - 1) % l.length = l.length - 1 by rw [Nat.mod_eq_of_lt (by omega)]; omega] at hd
      exact area_erase_zero h2 hd
    · have h1 : l.length = 1 := by omega
      rw [h1]
      show (0 : Int) = 0 + areaTerm l 0
      rw [term_det, h1, show (0 + 1) % 1 = 0 from rfl, det_self]; rfl
theorem allVld_erase {l : List Pt} {k : Nat} (hv : allVld l = true) : allVld (l.eraseIdx k) = true :=
  List.all_eq_true.2 fun p hp => List.all_eq_true.1 hv p (List.mem_of_mem_eraseIdx hp)
theorem simP_area (l : List Pt) (hv : allVld l = true) : areaTo (simP l) (simP l).length = areaTo l l.length ∧ allVld (simP l) = true := by
  match h : (List.range l.length).find? (flatAt l) with
  | none =>
    have h1 : ∀ i, i < l.length → flatAt l i = false := fun i hi => by
      have := List.find?_eq_none.1 h i (List.mem_range.2 hi)
      simpa using this
    rw [simP_none h1]; exact ⟨rfl, hv⟩
  | some i =>
    have h1 := List.mem_range.1 (List.mem_of_find?_eq_some h)
    have h2 := List.find?_some h
    have e : simP l = simP (l.eraseIdx i) := by
      rw [simP]
      split
      · rename_i e; rw [h] at e; cases e
      · rename_i j e; rw [h] at e; injection e with e; rw [e]
    have hlt : (l.eraseIdx i).length < l.length := by rw [List.length_eraseIdx, if_pos h1]; omega
    have ih := simP_area (l.eraseIdx i) (allVld_erase hv)
    rw [e, ← area_erase hv h1 h2]
    exact ih
termination_by l.length
theorem area_small {l : List Pt} (h : l.length < 3) : areaTo l l.length = 0 := by
  match l, h with
  | [], _ => rfl
  | [a], _ =>
    show (0 : Int) + areaTerm [a] 0 = 0
    rw [term_det, show (0 + 1) % ([a] : List Pt).length = 0 by simp, det_self]; rfl
  | [a, b], _ =>
    show (0 : Int) + areaTerm [a, b] 0 + areaTerm [a, b] 1 = 0
    rw [term_det, term_det, show (0 + 1) % ([a, b] : List Pt).length = 1 by simp, show (1 + 1) % ([a, b] : List Pt).length = 0 by simp, det_anti (ptAt [a, b] 1)]; omega
  | _ :: _ :: _ :: r, h => simp at h; omega
theorem resP_area {l : List Pt} (hv : allVld l = true) (hl : l.length ≤ 8192) : area2 (resP l) = area2 l := by
  obtain ⟨h1, h2⟩ := simP_area l hv
  have h3 := simP_len l
  unfold area2
  rw [if_neg (show ¬ 8192 < l.length by omega), if_pos hv, ← h1]
  unfold resP
  split
  · rename_i h
    rw [area_small h]; rfl
  · rw [if_neg (show ¬ 8192 < (simP l).length by omega)]
theorem resP_flat (l : List Pt) : ∀ i, i < (resP l).length → flatAt (resP l) i = false := by
  unfold resP
  split
  · intro i h; simp at h
  · exact simP_done l
theorem resP_again (l : List Pt) : resP (resP l) = resP l := by
  have h := simP_none (resP_flat l)
  rw [show resP (resP l) = if (simP (resP l)).length < 3 then [] else simP (resP l) from rfl, h]
  split
  · rename_i h2
    have : (resP l).length < 3 → resP l = [] := by
      unfold resP
      split
      · intro _; rfl
      · intro h4; exact absurd h4 (by assumption)
    exact (this h2).symm
  · rfl
theorem resP_no (l : List Pt) : (resP l).length ≠ 1 ∧ (resP l).length ≠ 2 := by
  unfold resP
  split
  · exact ⟨by simp, by simp⟩
  · rename_i h; exact ⟨by omega, by omega⟩
theorem resP_vld {l : List Pt} (hv : allVld l = true) : allVld (resP l) = true := by
  unfold resP
  split
  · rfl
  · exact (simP_area l hv).2
end Go.Proofs.Yteadnlodccnfcaa

/- Chain: plain laws of what its contours use. -/
import Derived.Test.YteadnlodccnfcaaCtrSome
namespace Go.Proofs.Yteadnlodccnfcaa
set_option linter.unusedSimpArgs false
set_option linter.unusedVariables false
open Planar
theorem walk_cnt (R : List Sg) (f p : Pt) : (walkP R f p).1.length + (walkP R f p).2.length = R.length := by
  match h : ends R p with
  | [] => rw [walk_nil h]; simp
  | b :: t =>
    have hl := pop_len h
    by_cases hb : b = f
    · rw [walk_end h hb]; simp only [List.length_singleton]; omega
    · rw [walk_on h hb]
      have := walk_cnt (pop R p) f b
      simp only [List.length_cons]
      omega
termination_by R.length
theorem chain_cnt (R : List Sg) : sumN (chainP R) = R.length := by
  match R with
  | [] => rw [chain_nil]; rfl
  | s :: t =>
    have hlt := walk_lt (f := s.1) (ends_head s t)
    have h1 := chain_cnt (walkP (s :: t) s.1 s.1).2
    have h2 := walk_cnt (s :: t) s.1 s.1
    rw [chain_cons]
    unfold sumN at *
    rw [List.map_cons, List.sum_cons, h1]
    exact h2
termination_by R.length
theorem chain_ne (R : List Sg) : ∀ o ∈ chainP R, o ≠ [] := by
  match R with
  | [] => rw [chain_nil]; intro o ho; cases ho
  | s :: t =>
    have hlt := walk_lt (f := s.1) (ends_head s t)
    rw [chain_cons]
    intro o ho
    rcases List.mem_cons.1 ho with rfl | ho
    · intro h0
      have h2 := walk_cnt (s :: t) s.1 s.1
      rw [h0] at h2
      simp only [List.length_nil] at h2
      omega
    · exact chain_ne _ o ho
termination_by R.length
theorem sumN_ge {l : List (List Pt)} {o : List Pt} (h : o ∈ l) : o.length ≤ sumN l := by
  induction l with
  | nil => cases h
  | cons q l ih =>
    unfold sumN at *
    rw [List.map_cons, List.sum_cons]
    rcases List.mem_cons.1 h with rfl | h
    · omega
    · have := ih h; omega
theorem sumN_len {l : List (List Pt)} (h : ∀ o ∈ l, o ≠ []) : l.length ≤ sumN l := by
  induction l with
  | nil => simp
  | cons q l ih =>
    have h1 := ih (fun o ho => h o (by simp [ho]))
    have h2 : 0 < q.length := List.length_pos_iff.2 (h q (by simp))
    unfold sumN at *
    rw [List.map_cons, List.sum_cons, List.length_cons]
    omega
theorem chain_len (R : List Sg) : (chainP R).length ≤ R.length := by
  rw [← chain_cnt R]; exact sumN_len (chain_ne R)
theorem chain_each {R : List Sg} {o : List Pt} (h : o ∈ chainP R) : o.length ≤ R.length := by
  rw [← chain_cnt R]; exact sumN_ge h
theorem balP_perm {a b : List Sg} (h : a.Perm b) (p : Pt) : balP a p = balP b p := by
  unfold balP; rw [h.countP_eq, h.countP_eq]
theorem balP_cons (s : Sg) (R : List Sg) (x : Pt) : balP (s :: R) x = balP R x + (if x = s.1 then 1 else 0) - (if x = s.2 then 1 else 0) := by
  unfold balP
  rw [List.countP_cons, List.countP_cons]
  by_cases h1 : s.1 = x <;> by_cases h2 : s.2 = x
  · simp [h1, h2]; omega
  · have : ¬ x = s.2 := fun e => h2 e.symm
    simp [h1, h2, this]; omega
  · have : ¬ x = s.1 := fun e => h1 e.symm
    simp [h1, h2, this]; omega
  · have h3 : ¬ x = s.1 := fun e => h1 e.symm
    have h4 : ¬ x = s.2 := fun e => h2 e.symm
    simp [h1, h2, h3, h4]
theorem balP_full (l : List Sg) (p : Pt) : balP (l.filter full) p = balP l p := by
  induction l with
  | nil => rfl
  | cons s l ih =>
    by_cases h : full s = true
    · rw [List.filter_cons_of_pos h, balP_cons, balP_cons, ih]
    · rw [List.filter_cons_of_neg h, ih, balP_cons]
      have e : s.1 = s.2 := by
        unfold full at h; simpa using h
      rw [e]; omega
theorem balB_all {l : List Sg} (h : balB l = true) (p : Pt) : balP l p = 0 := by
  by_cases hm : ∃ s ∈ l, s.1 = p ∨ s.2 = p
  · obtain ⟨s, hs, he⟩ := hm
    unfold balB at h
    have := List.all_eq_true.1 h s hs
    simp only [Bool.and_eq_true, decide_eq_true_eq] at this
    rcases he with rfl | rfl
    · exact this.1
    · exact this.2
  · unfold balP
    have e1 : (l.countP fun s => decide (s.1 = p)) = 0 := List.countP_eq_zero.2 fun s hs hd => hm ⟨s, hs, .inl (by simpa using hd)⟩
    have e2 : (l.countP fun s => decide (s.2 = p)) = 0 := List.countP_eq_zero.2 fun s hs hd => hm ⟨s, hs, .inr (by simpa using hd)⟩
    rw [e1, e2]; rfl
theorem ends_of_bal {R : List Sg} {p : Pt} (h : 0 < balP R p) : ends R p ≠ [] := by
  intro h0
  unfold balP at h
  have e1 : (R.countP fun s => decide (s.1 = p)) = 0 := List.countP_eq_zero.2 fun s hs hd => ends_nil.1 h0 s hs (by simpa using hd)
  rw [e1] at h
  omega
/-- the segments along points, and back to f -/
def pathS : List Pt → Pt → List Sg
  | [], _ => []
  | [p], f => [(p, f)]
  | p :: q :: r, f => (p, q) :: pathS (q :: r) f
theorem pathS_len : ∀ (o : List Pt) (f : Pt), (pathS o f).length = o.length
  | [], _ => rfl
  | [_], _ => rfl
  | p :: q :: r, f => by
    have := pathS_len (q :: r) f
    simp only [pathS, List.length_cons] at *
    omega
theorem pathS_get : ∀ (o : List Pt) (f : Pt) (i : Nat), i < o.length → (pathS o f)[i]? = some (o.getD i (0, 0), o.getD (i + 1) f)
  | [], _, i, h => by simp at h
  | [p], f, 0, _ => rfl
  | [p], f, i + 1, h => by simp at h
  | p :: q :: r, f, 0, _ => rfl
  | p :: q :: r, f, i + 1, h => by
    have := pathS_get (q :: r) f i (by simpa using h)
    simpa [pathS] using this
theorem pathS_segs {p : Pt} {o : List Pt} : pathS (p :: o) p = segsO (p :: o) := by
  apply List.ext_getElem?
  intro i
  by_cases hi : i < (p :: o).length
  · rw [pathS_get _ _ _ hi]
    unfold segsO segsTo
    rw [List.getElem?_map, List.getElem?_range hi]
    unfold segAt
    simp only [Option.map_some]
    by_cases h2 : i + 1 < (p :: o).length
    · rw [Nat.mod_eq_of_lt h2]
      congr 2
      rw [List.getD_eq_getElem?_getD, List.getD_eq_getElem?_getD, List.getElem?_eq_getElem h2]
      rfl
    · have e : i + 1 = (p :: o).length := by omega
      rw [e, Nat.mod_self]
      congr 2
      rw [List.getD_eq_getElem?_getD, List.getElem?_eq_none (Nat.le_refl _)]
      rfl
  · rw [List.getElem?_eq_none (by rw [pathS_len]; omega), List.getElem?_eq_none (by unfold segsO; rw [segsTo_len]; omega)]
def Bal (R : List Sg) (f p : Pt) : Prop := ∀ x, balP R x = (if x = p then 1 else 0) - (if x = f then 1 else 0)
theorem Bal.pop {R : List Sg} {f p b : Pt} {t : List Pt} (h : Bal R f p) (he : ends R p = b :: t) : Bal (pop R p) f b := by
  intro x
  have h1 := h x
  rw [balP_perm (pop_perm he), balP_cons] at h1
  simp only at h1
  omega
theorem walk_bal {R : List Sg} {f p : Pt} (h : Bal R f p) (hne : ends R p ≠ []) : ∃ q, (walkP R f p).1 = p :: q ∧ (∀ x ∈ q, x ≠ f) ∧ R.Perm (pathS (p :: q) f ++ (walkP R f p).2) ∧ ∀ x, balP (walkP R f p).2 x = 0 := by
  match he : ends R p with
  | [] => exact absurd he hne
  | b :: t =>
    have hl := pop_len he
    have hB := h.pop he
    by_cases hb : b = f
    · rw [walk_end he hb]
      refine ⟨[], rfl, (fun x hx => by cases hx), ?_, fun x => ?_⟩
      · subst hb; exact pop_perm he
      · have := hB x; rw [this, hb]; omega
    · have hne2 : ends (_root_.Go.Proofs.Yteadnlodccnfcaa.pop R p) b ≠ [] := ends_of_bal (by rw [hB b, if_pos rfl, if_neg hb]; omega)
      obtain ⟨q, h1, h2, h3, h4⟩ := walk_bal hB hne2
      rw [walk_on he hb]
      refine ⟨b :: q, by rw [h1], fun x hx => ?_, ?_, h4⟩
      · rcases List.mem_cons.1 hx with rfl | hx
        · exact hb
        · exact h2 x hx
      · exact (pop_perm he).trans (h3.cons (p, b))
termination_by R.length
theorem chain_bal (R : List Sg) (h : ∀ x, balP R x = 0) : R.Perm (segsL (chainP R)) ∧ ∀ o ∈ chainP R, ∃ p q, o = p :: q ∧ ∀ x ∈ q, x ≠ p := by
  match R with
  | [] => rw [chain_nil]; exact ⟨List.Perm.refl _, fun o ho => by cases ho⟩
  | s :: t =>
    have hlt := walk_lt (f := s.1) (ends_head s t)
    have hB : Bal (s :: t) s.1 s.1 := fun x => by rw [h x]; omega
    obtain ⟨q, h1, h2, h3, h4⟩ := walk_bal hB (by rw [ends_head]; simp)
    obtain ⟨h5, h6⟩ := chain_bal _ h4
    rw [chain_cons]
    refine ⟨?_, fun o ho => ?_⟩
    · have e : segsL ((walkP (s :: t) s.1 s.1).1 :: chainP (walkP (s :: t) s.1 s.1).2) = segsO (walkP (s :: t) s.1 s.1).1 ++ segsL (chainP (walkP (s :: t) s.1 s.1).2) := by simp [segsL]
      rw [e, h1, ← pathS_segs]
      exact h3.trans (h5.append_left _)
    · rcases List.mem_cons.1 ho with rfl | ho
      · exact ⟨s.1, q, h1, h2⟩
      · exact h6 o ho
termination_by R.length
/-- what Chain returns, for segments without an error -/
theorem chain_facts {l : List Sg} (h : chErr l = 0) : l.length ≤ 8192 ∧ validS l = true ∧ (∀ x, balP (sortS l) x = 0) ∧ chLst l = chainP (sortS l) := by
  have h0 := h
  unfold chErr at h
  split at h
  · cases h
  · split at h
    · cases h
    · split at h
      · cases h
      · rename_i h1 h2 h3
        refine ⟨by omega, by simpa using h2, fun x => ?_, ?_⟩
        · rw [balP_perm (sortS_perm l), balP_full]
          exact balB_all (by simpa using h3) x
        · unfold chLst; rw [if_pos h0]
theorem chain_uses {l : List Sg} (h : chErr l = 0) : (l.filter full).Perm (segsL (chLst l)) ∧ ∀ o ∈ chLst l, ∃ p q, o = p :: q ∧ ∀ x ∈ q, x ≠ p := by
  obtain ⟨h1, h2, h3, h4⟩ := chain_facts h
  rw [h4]
  obtain ⟨h5, h6⟩ := chain_bal _ h3
  exact ⟨(sortS_perm l).symm.trans h5, h6⟩
theorem chain_again {l : List Sg} (h : chErr l = 0) : chErr (segsL (chLst l)) = 0 ∧ chLst (segsL (chLst l)) = chLst l := by
  obtain ⟨h1, h2, h3, h4⟩ := chain_facts h
  have h5 := (chain_uses h).1
  have hfull : (segsL (chLst l)).filter full = segsL (chLst l) := by
    rw [List.filter_eq_self]
    intro s hs
    exact (List.mem_filter.1 (h5.mem_iff.2 hs)).2
  have hE : chErr (segsL (chLst l)) = 0 := by
    unfold chErr
    have hl : (segsL (chLst l)).length ≤ l.length := by rw [← h5.length_eq]; exact List.length_filter_le _ _
    rw [if_neg (by omega), if_neg, if_neg]
    · rw [balB_segsL]; simp
    · have : validS (segsL (chLst l)) = true := by
        unfold validS at h2 ⊢
        rw [List.all_eq_true] at h2 ⊢
        intro s hs
        exact h2 s (List.mem_filter.1 (h5.mem_iff.2 hs)).1
      rw [this]; simp
  refine ⟨hE, ?_⟩
  have e : sortS (segsL (chLst l)) = sortS l := sortS_eq (by rw [hfull]; exact (sortS_perm l).trans h5) (sortS_srt l)
  rw [h4] at e ⊢
  have hE2 := hE
  rw [h4] at hE2
  unfold chLst
  rw [if_pos hE2, e]
theorem chLst_small {l : List Sg} {n : Nat} (hn : l.length ≤ n) : (chLst l).length ≤ n ∧ ∀ o ∈ chLst l, o.length ≤ n := by
  unfold chLst
  split
  · have h1 := sortS_len l
    exact ⟨Nat.le_trans (chain_len _) (by omega), fun o ho => Nat.le_trans (chain_each ho) (by omega)⟩
  · exact ⟨Nat.zero_le _, fun o ho => by cases ho⟩
end Go.Proofs.Yteadnlodccnfcaa

/- Chain: plain laws: sorted segments, walks along them. -/
import Derived.Test.YteadnlodccnfcaaCtrOrd
namespace Go.Proofs.Yteadnlodccnfcaa
set_option linter.unusedSimpArgs false
set_option linter.unusedVariables false
open Planar
/-- by the start, then by the end -/
def ltS (a b : Sg) : Prop := ltX a.1 b.1 ∨ a.1 = b.1 ∧ ltX a.2 b.2
instance (a b : Sg) : Decidable (ltS a b) := inferInstanceAs (Decidable (_ ∨ _ ∧ _))
theorem ltX_tri {a b : Pt} (h1 : ¬ ltX a b) (h2 : ¬ ltX b a) : a = b := by unfold ltX at *; ext <;> omega
theorem ltX_irr (a : Pt) : ¬ ltX a a := by unfold ltX; omega
theorem ltX_tr {a b c : Pt} (h1 : ltX a b) (h2 : ltX b c) : ltX a c := by unfold ltX at *; omega
theorem ltX_ntr {a b c : Pt} (h1 : ¬ ltX b a) (h2 : ¬ ltX c b) : ¬ ltX c a := by unfold ltX at *; omega
theorem ltS_tri {a b : Sg} (h1 : ¬ ltS a b) (h2 : ¬ ltS b a) : a = b := by
  unfold ltS at *
  have e1 : a.1 = b.1 := ltX_tri (fun h => h1 (.inl h)) (fun h => h2 (.inl h))
  have e2 : a.2 = b.2 := ltX_tri (fun h => h1 (.inr ⟨e1, h⟩)) (fun h => h2 (.inr ⟨e1.symm, h⟩))
  exact Prod.ext e1 e2
theorem ltS_irr (a : Sg) : ¬ ltS a a := by unfold ltS; have h1 := ltX_irr a.1; have h2 := ltX_irr a.2; simp [h1, h2]
theorem ltS_ntr {a b c : Sg} (h1 : ¬ ltS b a) (h2 : ¬ ltS c b) : ¬ ltS c a := by
  unfold ltS ltX at *
  simp only [Prod.ext_iff] at *
  omega
abbrev SrtX (l : List Pt) : Prop := l.Pairwise fun a b => ¬ ltX b a
abbrev SrtS (l : List Sg) : Prop := l.Pairwise fun a b => ¬ ltS b a
theorem srtX_uniq {l l' : List Pt} (hp : l.Perm l') (h : SrtX l) (h' : SrtX l') : l = l' := List.Perm.eq_of_pairwise (fun a b _ _ h1 h2 => ltX_tri h2 h1) h h' hp
theorem srtS_uniq {l l' : List Sg} (hp : l.Perm l') (h : SrtS l) (h' : SrtS l') : l = l' := List.Perm.eq_of_pairwise (fun a b _ _ h1 h2 => ltS_tri h2 h1) h h' hp
def sortX (l : List Pt) : List Pt := l.mergeSort fun a b => !decide (ltX b a)
theorem sortX_perm (l : List Pt) : (sortX l).Perm l := List.mergeSort_perm _ _
theorem sortX_srt (l : List Pt) : SrtX (sortX l) := by
  have h := List.pairwise_mergeSort (le := fun a b : Pt => !decide (ltX b a)) (fun a b c h1 h2 => by simp at h1 h2 ⊢; exact ltX_ntr h1 h2) (fun a b => by
    simp
    by_cases h : ltX b a
    · right; unfold ltX at *; omega
    · exact .inl h) l
  exact h.imp fun {a b} h => by simpa using h
def full (s : Sg) : Bool := decide (s.1 ≠ s.2)
def sortS (l : List Sg) : List Sg := (l.filter full).mergeSort fun a b => !decide (ltS b a)
theorem sortS_perm (l : List Sg) : (sortS l).Perm (l.filter full) := List.mergeSort_perm _ _
theorem sortS_srt (l : List Sg) : SrtS (sortS l) := by
  have h := List.pairwise_mergeSort (le := fun a b : Sg => !decide (ltS b a)) (fun a b c h1 h2 => by simp at h1 h2 ⊢; exact ltS_ntr h1 h2) (fun a b => by
    simp
    by_cases h : ltS b a
    · right; intro h'; unfold ltS ltX at *; simp only [Prod.ext_iff] at *; omega
    · exact .inl h) (l.filter full)
  exact h.imp fun {a b} h => by simpa using h
theorem sortS_eq {l R : List Sg} (hp : R.Perm (l.filter full)) (h : SrtS R) : sortS l = R := srtS_uniq ((sortS_perm l).trans hp.symm) (sortS_srt l) h
theorem sortS_len (l : List Sg) : (sortS l).length ≤ l.length := by rw [(sortS_perm l).length_eq]; exact List.length_filter_le _ _
/-- the ends of the segments that begin at a point -/
def ends (R : List Sg) (p : Pt) : List Pt := (R.filter fun s => decide (s.1 = p)).map (·.2)
/-- the first one that begins at a point is taken away -/
def pop (R : List Sg) (p : Pt) : List Sg := R.eraseP fun s => decide (s.1 = p)
theorem ends_cons (s : Sg) (R : List Sg) (p : Pt) : ends (s :: R) p = if s.1 = p then s.2 :: ends R p else ends R p := by
  unfold ends; by_cases h : s.1 = p <;> simp [h]
theorem pop_cons (s : Sg) (R : List Sg) (p : Pt) : pop (s :: R) p = if s.1 = p then R else s :: pop R p := by
  unfold pop; by_cases h : s.1 = p <;> simp [h]
theorem ends_pop : ∀ (R : List Sg) (p q : Pt), ends (pop R p) q = if q = p then (ends R p).tail else ends R q
  | [], p, q => by simp [pop, ends]
  | s :: R, p, q => by
    rw [pop_cons]
    by_cases h : s.1 = p
    · rw [if_pos h, ends_cons, ends_cons, if_pos h]
      by_cases e : q = p
      · subst e; simp
      · rw [if_neg e, if_neg (fun h' => e (h'.symm.trans h))]
    · rw [if_neg h, ends_cons, ends_pop R p q, ends_cons, ends_cons, if_neg h]
      by_cases e : q = p
      · subst e; simp [h]
      · simp [e]
/-- a segment is taken: the rest -/
theorem pop_perm : ∀ {R : List Sg} {p b : Pt} {t : List Pt}, ends R p = b :: t → R.Perm ((p, b) :: pop R p)
  | [], p, b, t, h => by simp [ends] at h
  | s :: R, p, b, t, h => by
    rw [ends_cons] at h
    rw [pop_cons]
    by_cases e : s.1 = p
    · rw [if_pos e] at h ⊢
      injection h with h1 h2
      rw [← e, ← h1]
    · rw [if_neg e] at h ⊢
      exact ((pop_perm h).cons s).trans (List.Perm.swap _ _ _)
theorem pop_len {R : List Sg} {p b : Pt} {t : List Pt} (h : ends R p = b :: t) : (pop R p).length + 1 = R.length := by
  rw [(pop_perm h).length_eq]; rfl
theorem pop_srt {R : List Sg} {p : Pt} (h : SrtS R) : SrtS (pop R p) := h.sublist List.eraseP_sublist
theorem mem_pop {R : List Sg} {p : Pt} {s : Sg} (h : s ∈ pop R p) : s ∈ R := List.mem_of_mem_eraseP h
theorem mem_ends {R : List Sg} {p b : Pt} : b ∈ ends R p ↔ (p, b) ∈ R := by
  unfold ends
  simp only [List.mem_map, List.mem_filter, decide_eq_true_eq]
  constructor
  · rintro ⟨s, ⟨h1, rfl⟩, rfl⟩; exact h1
  · intro h; exact ⟨_, ⟨h, rfl⟩, rfl⟩
theorem ends_nil {R : List Sg} {p : Pt} : ends R p = [] ↔ ∀ s ∈ R, s.1 ≠ p := by
  constructor
  · intro h s hs e
    have : s.2 ∈ ends R p := mem_ends.2 (by rw [← e]; exact hs)
    rw [h] at this; cases this
  · intro h
    rw [List.eq_nil_iff_forall_not_mem]
    intro b hb
    exact h _ (mem_ends.1 hb) rfl
/-- along the segments, from a point until it is 'first' again, or there is no segment -/
def walkP (R : List Sg) (f p : Pt) : List Pt × List Sg :=
  match h : ends R p with
  | [] => ([], R)
  | b :: _ => if b = f then ([p], pop R p) else (p :: (walkP (pop R p) f b).1, (walkP (pop R p) f b).2)
termination_by R.length
decreasing_by all_goals (have := pop_len h; omega)
theorem walk_nil {R : List Sg} {f p : Pt} (h : ends R p = []) : walkP R f p = ([], R) := by
  rw [walkP]; split
  · rfl
  · rename_i b t e; rw [h] at e; cases e
theorem walk_end {R : List Sg} {f p b : Pt} {t : List Pt} (h : ends R p = b :: t) (hb : b = f) : walkP R f p = ([p], pop R p) := by
  rw [walkP]; split
  · rename_i e; rw [h] at e; cases e
  · rename_i b' t' e; rw [h] at e; injection e with e1 e2; subst e1; rw [if_pos hb]
theorem walk_on {R : List Sg} {f p b : Pt} {t : List Pt} (h : ends R p = b :: t) (hb : b ≠ f) : walkP R f p = (p :: (walkP (pop R p) f b).1, (walkP (pop R p) f b).2) := by
  rw [walkP]; split
  · rename_i e; rw [h] at e; cases e
  · rename_i b' t' e; rw [h] at e; injection e with e1 e2; subst e1; rw [if_neg hb]
theorem walk_le (R : List Sg) (f p : Pt) : (walkP R f p).2.length ≤ R.length := by
  match h : ends R p with
  | [] => rw [walk_nil h]; exact Nat.le_refl _
  | b :: t =>
    have hl := pop_len h
    by_cases hb : b = f
    · rw [walk_end h hb]; show (pop R p).length ≤ _; omega
    · rw [walk_on h hb]
      have := walk_le (pop R p) f b
      show (walkP (pop R p) f b).2.length ≤ _
      omega
termination_by R.length
theorem walk_lt {R : List Sg} {f p b : Pt} {t : List Pt} (h : ends R p = b :: t) : (walkP R f p).2.length < R.length := by
  have hl := pop_len h
  by_cases hb : b = f
  · rw [walk_end h hb]; show (pop R p).length < _; omega
  · rw [walk_on h hb]
    have := walk_le (pop R p) f b
    show (walkP (pop R p) f b).2.length < _
    omega
theorem walk_sub (R : List Sg) (f p : Pt) : (walkP R f p).2.Sublist R := by
  match h : ends R p with
  | [] => rw [walk_nil h]; exact List.Sublist.refl _
  | b :: t =>
    have hl := pop_len h
    by_cases hb : b = f
    · rw [walk_end h hb]; exact List.eraseP_sublist
    · rw [walk_on h hb]; exact (walk_sub (pop R p) f b).trans List.eraseP_sublist
termination_by R.length
theorem ends_head (s : Sg) (R : List Sg) : ends (s :: R) s.1 = s.2 :: ends R s.1 := by rw [ends_cons, if_pos rfl]
/-- all contours -/
def chainP (R : List Sg) : List (List Pt) :=
  match R with
  | [] => []
  | s :: t => (walkP (s :: t) s.1 s.1).1 :: chainP (walkP (s :: t) s.1 s.1).2
termination_by R.length
decreasing_by exact walk_lt (ends_head s t)
theorem chain_nil : chainP [] = [] := by rw [chainP]
theorem chain_cons (s : Sg) (t : List Sg) : chainP (s :: t) = (walkP (s :: t) s.1 s.1).1 :: chainP (walkP (s :: t) s.1 s.1).2 := by rw [chainP]
/-- the points that the segments begin at, ascending, all before an index done with: the next contour begins at the least one -/
theorem chain_at {R : List Sg} {p b : Pt} {t : List Pt} (hs : SrtS R) (h : ends R p = b :: t) (hl : ∀ s ∈ R, ¬ ltX s.1 p) : chainP R = (walkP R p p).1 :: chainP (walkP R p p).2 := by
  cases R with
  | nil => simp [ends] at h
  | cons s R =>
    have e : s.1 = p := by
      have hb : (p, b) ∈ s :: R := mem_ends.1 (by rw [h]; simp)
      rcases List.mem_cons.1 hb with rfl | hb
      · rfl
      · have h1 : ¬ ltS (p, b) s := (List.pairwise_cons.1 hs).1 _ hb
        have h2 := hl s (by simp)
        exact ltX_tri h2 (fun h => h1 (.inl h))
    subst e
    exact chain_cons s R
/-- the pool that is built, behind sorting, is that of the sorted list -/
theorem ends_sort (l : List Sg) (p : Pt) : ends (sortS l) p = sortX (ends (l.filter full) p) := by
  refine srtX_uniq ?_ ?_ (sortX_srt _)
  · unfold ends
    exact ((((sortS_perm l).filter _).map _)).trans (sortX_perm _).symm
  · unfold ends SrtX
    rw [List.pairwise_map]
    refine List.Pairwise.imp_of_mem ?_ ((sortS_srt l).filter _)
    intro a b ha hb hab h
    simp at ha hb
    exact hab (.inr ⟨by rw [ha.2, hb.2], h⟩)
end Go.Proofs.Yteadnlodccnfcaa

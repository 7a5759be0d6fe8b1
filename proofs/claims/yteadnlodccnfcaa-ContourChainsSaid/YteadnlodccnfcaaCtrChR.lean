/- Chain of the chapter: plain laws, and its smaller functions walked. -/
import Derived.Test.YteadnlodccnfcaaCtrEul
import Derived.Test.YteadnlodccnfcaaCtrTwo
import Derived.Test.YteadnlodccnfcaaCtrCount
import Derived.Test.YteadnlodccnfcaaCtrNestT
namespace Go.Proofs.Yteadnlodccnfcaa
set_option linter.unusedSimpArgs false
set_option linter.unusedVariables false
set_option maxRecDepth 100000
open Go.RowKit Planar
attribute [local go_sem] Kin.cell Kin.frozen Kin.lt0 Kin.lt1 Kin.lt2 Kin.lt3 run_mkf
def encB (b : Bool) : List Value := [.bool b]
theorem encB_len (b : Bool) : (encB b).length = 1 := rfl
theorem oneB : OneC encB := fun x u hu => by simp [encB] at hu; rcases hu with rfl; rfl
theorem infoB : (Try.prog.info? 4).map (fun i => (i.zero, i.size, i.bytes)) = some (some (.bool false), 1, 1) := by kernel_rfl
/-- the segments that are not done yet and not empty -/
def remL : List Sg → List Bool → List Sg
  | s :: l, d :: dn => if (!d && full s) = true then s :: remL l dn else remL l dn
  | _, _ => []
def Cand (l : List Sg) (dn : List Bool) (st : Bool) (p : Pt) (j : Nat) (t : Sg) : Prop := l[j]? = some t ∧ dn[j]? = some false ∧ full t = true ∧ (st = true → t.1 = p)
theorem mem_rem : ∀ {l : List Sg} {dn : List Bool} {s : Sg}, s ∈ remL l dn ↔ ∃ i : Nat, l[i]? = some s ∧ dn[i]? = some false ∧ full s = true
  | [], dn, s => by simp [remL]
  | a :: l, [], s => by simp [remL]
  | a :: l, d :: dn, s => by
    have ih := mem_rem (l := l) (dn := dn) (s := s)
    unfold remL
    constructor
    · intro h
      by_cases hc : (!d && full a) = true
      · rw [if_pos hc] at h
        rcases List.mem_cons.1 h with rfl | h
        · rw [Bool.and_eq_true] at hc
          exact ⟨0, rfl, by simp at hc ⊢; exact hc.1, hc.2⟩
        · obtain ⟨i, h1, h2, h3⟩ := ih.1 h
          exact ⟨i + 1, by simpa using h1, by simpa using h2, h3⟩
      · rw [if_neg hc] at h
        obtain ⟨i, h1, h2, h3⟩ := ih.1 h
        exact ⟨i + 1, by simpa using h1, by simpa using h2, h3⟩
    · rintro ⟨i, h1, h2, h3⟩
      match i, h1, h2 with
      | 0, h1, h2 =>
        simp at h1 h2
        subst h1 h2
        rw [if_pos (by simp [h3])]
        simp
      | i + 1, h1, h2 =>
        have h4 := ih.2 ⟨i, by simpa using h1, by simpa using h2, h3⟩
        by_cases hc : (!d && full a) = true
        · rw [if_pos hc]; exact List.mem_cons_of_mem _ h4
        · rw [if_neg hc]; exact h4
theorem rem_start : ∀ (l : List Sg), remL l (List.replicate l.length false) = l.filter full
  | [] => rfl
  | s :: l => by
    rw [List.length_cons, List.replicate_succ]
    unfold remL
    rw [rem_start l]
    by_cases h : full s = true
    · rw [List.filter_cons_of_pos h, if_pos (by simp [h])]
    · rw [List.filter_cons_of_neg h, if_neg (by simp [h])]
theorem rem_mark : ∀ {l : List Sg} {dn : List Bool} {i : Nat} {s : Sg}, l[i]? = some s → dn[i]? = some false → full s = true → (remL l dn).Perm (s :: remL l (dn.set i true))
  | [], dn, i, s, h1, h2, h3 => by simp at h1
  | a :: l, [], i, s, h1, h2, h3 => by simp at h2
  | a :: l, d :: dn, 0, s, h1, h2, h3 => by
    simp at h1 h2
    subst h1 h2
    rw [List.set_cons_zero]
    unfold remL
    rw [if_pos (by simp [h3]), if_neg (by simp)]
  | a :: l, d :: dn, i + 1, s, h1, h2, h3 => by
    have ih := rem_mark (l := l) (dn := dn) (i := i) (s := s) (by simpa using h1) (by simpa using h2) h3
    rw [List.set_cons_succ]
    unfold remL
    by_cases hc : (!d && full a) = true
    · rw [if_pos hc, if_pos hc]
      exact (ih.cons a).trans (List.Perm.swap _ _ _)
    · rw [if_neg hc, if_neg hc]; exact ih
def LeastP (l : List Sg) (dn : List Bool) (st : Bool) (p : Pt) (k : Nat) (r : Int) : Prop :=
  (r = -1 ∧ ∀ j t, j < k → ¬ Cand l dn st p j t) ∨ (∃ (i : Nat) (s : Sg), r = (i : Int) ∧ i < k ∧ Cand l dn st p i s ∧ ∀ j t, j < k → Cand l dn st p j t → ¬ ltS t s)
theorem least_skip {l : List Sg} {dn : List Bool} {st : Bool} {p : Pt} {k : Nat} {r : Int} (h : LeastP l dn st p k r) (hn : ∀ t, ¬ Cand l dn st p k t) : LeastP l dn st p (k + 1) r := by
  rcases h with ⟨rfl, h⟩ | ⟨i, s, rfl, hi, hc, h⟩
  · refine .inl ⟨rfl, fun j t hj => ?_⟩
    by_cases e : j = k
    · subst e; exact hn t
    · exact h j t (by omega)
  · refine .inr ⟨i, s, rfl, by omega, hc, fun j t hj ht => ?_⟩
    by_cases e : j = k
    · subst e; exact absurd ht (hn t)
    · exact h j t (by omega) ht
theorem least_new {l : List Sg} {dn : List Bool} {st : Bool} {p : Pt} {k : Nat} {s : Sg} (h : LeastP l dn st p k (-1)) (hc : Cand l dn st p k s) : LeastP l dn st p (k + 1) (k : Int) := by
  rcases h with ⟨_, h⟩ | ⟨i, _, e, _⟩
  · refine .inr ⟨k, s, rfl, by omega, hc, fun j t hj ht => ?_⟩
    by_cases e : j = k
    · subst e
      have := ht.1.symm.trans hc.1
      injection this with this
      subst this; exact ltS_irr _
    · exact absurd ht (h j t (by omega))
  · omega
theorem least_better {l : List Sg} {dn : List Bool} {st : Bool} {p : Pt} {k i : Nat} {s t0 : Sg} (h : LeastP l dn st p k (i : Int)) (h0 : l[i]? = some t0) (hc : Cand l dn st p k s) (hlt : ltS s t0) : LeastP l dn st p (k + 1) (k : Int) := by
  rcases h with ⟨e, h⟩ | ⟨i', s', e, hi, hc', h⟩
  · omega
  · have e' : i = i' := by omega
    subst e'
    have e2 := hc'.1.symm.trans h0
    injection e2 with e2
    subst e2
    refine .inr ⟨k, s, rfl, by omega, hc, fun j t hj ht => ?_⟩
    by_cases e : j = k
    · subst e
      have := ht.1.symm.trans hc.1
      injection this with this
      subst this; exact ltS_irr _
    · intro h2
      refine h j t (by omega) ht ?_
      unfold ltS ltX at *
      simp only [Prod.ext_iff] at *
      omega
theorem least_worse {l : List Sg} {dn : List Bool} {st : Bool} {p : Pt} {k i : Nat} {s t0 : Sg} (h : LeastP l dn st p k (i : Int)) (h0 : l[i]? = some t0) (hk : l[k]? = some s) (hlt : ¬ ltS s t0) : LeastP l dn st p (k + 1) (i : Int) := by
  rcases h with ⟨e, h⟩ | ⟨i', s', e, hi, hc', h⟩
  · omega
  · have e' : i = i' := by omega
    subst e'
    have e2 := hc'.1.symm.trans h0
    injection e2 with e2
    subst e2
    refine .inr ⟨i, s', rfl, by omega, hc', fun j t hj ht => ?_⟩
    by_cases e : j = k
    · subst e
      have := ht.1.symm.trans hk
      injection this with this
      subst this; exact hlt
    · exact h j t (by omega) ht
set_option maxHeartbeats 4000000 in
theorem less_any (a b : Sg) (w : World) : Calls Try.prog 54 #[.agg #[.int .i64 a.1.1, .int .i64 a.1.2, .int .i64 a.2.1, .int .i64 a.2.2], .agg #[.int .i64 b.1.1, .int .i64 b.1.2, .int .i64 b.2.1, .int .i64 b.2.2]] w fun e w' => e = .returned (.bool (decide (ltS a b))) ∧ Below w.heap.size w w' := by
  go_enter Try.func54, Try.ntmps54
  go_wp2
  all_goals
    go_ret
    refine ⟨ret_bool ?_, (by repeat (first | with_reducible (first | exact blA | exact blB | refine blC _ ?_ | refine blD ?_ ?_ _ | refine blE ?_ | refine blF _ ?_ | refine blG ?_ _ | refine blH ?_ | refine blI ?_ ?_ _) | (simp only [World.size_alloc]; omega) | (simp <;> omega)))⟩
    simp only [bne_iff_ne, bne_eq_false_iff_eq, ne_eq] at *
    rw [decide_eq_decide]
    unfold ltS ltX
    simp only [Prod.ext_iff]
    omega
theorem less_is {r : Bool} (a b : Sg) (w : World) (h : decide (ltS a b) = r) : Calls Try.prog 54 #[.agg #[.int .i64 a.1.1, .int .i64 a.1.2, .int .i64 a.2.1, .int .i64 a.2.2], .agg #[.int .i64 b.1.1, .int .i64 b.1.2, .int .i64 b.2.1, .int .i64 b.2.2]] w fun e w' => e = .returned (.bool r) ∧ Below w.heap.size w w' := by subst h; exact less_any a b w
end Go.Proofs.Yteadnlodccnfcaa

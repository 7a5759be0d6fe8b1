/- Once: plain laws. -/
import Derived.Test.YtomndgjnhhchdaaTrkMath
namespace Go.Proofs.Ytomndgjnhhchdaa
set_option linter.unusedSimpArgs false
set_option linter.unusedVariables false
namespace Trk
/-- the last track gets another cell -/
def addLast (xs : List Tr) (c : Cl) : List Tr := match xs.getLast? with | some x => xs.dropLast ++ [(x.1, x.2 ++ [c])] | none => xs
theorem addLast_snoc (E : List Tr) (x : Tr) (c : Cl) : addLast (E ++ [x]) c = E ++ [(x.1, x.2 ++ [c])] := by simp [addLast]
/-- the pieces of the first i cells -/
def pcsTo (r : Int) (l : List Cl) (ks : List Bool) : Nat → List Tr
  | 0 => []
  | i + 1 => match l[i]?, ks[i]? with
    | some c, some true => if i = 0 ∨ ks[i - 1]? = some false then pcsTo r l ks i ++ [((r, false), [c])] else addLast (pcsTo r l ks i) c
    | _, _ => pcsTo r l ks i
theorem pcsTo_skip {r : Int} {l : List Cl} {ks : List Bool} {i : Nat} (hk : ks[i]? = some false) : pcsTo r l ks (i + 1) = pcsTo r l ks i := by
  rw [pcsTo, hk]; split <;> simp_all
theorem pcsTo_new {r : Int} {l : List Cl} {ks : List Bool} {i : Nat} {c : Cl} (hc : l[i]? = some c) (hk : ks[i]? = some true) (h : i = 0 ∨ ks[i - 1]? = some false) : pcsTo r l ks (i + 1) = pcsTo r l ks i ++ [((r, false), [c])] := by
  rw [pcsTo, hk, hc]; simp only; rw [if_pos h]
theorem pcsTo_more {r : Int} {l : List Cl} {ks : List Bool} {i : Nat} {c : Cl} (hc : l[i]? = some c) (hk : ks[i]? = some true) (h : ¬ (i = 0 ∨ ks[i - 1]? = some false)) : pcsTo r l ks (i + 1) = addLast (pcsTo r l ks i) c := by
  rw [pcsTo, hk, hc]; simp only; rw [if_neg h]
theorem addLast_ne {xs : List Tr} {c : Cl} (h : xs ≠ []) : addLast xs c ≠ [] := by
  rcases List.eq_nil_or_concat xs with h0 | ⟨E, x, h0⟩
  · exact absurd h0 h
  · subst h0; rw [List.concat_eq_append, addLast_snoc]; simp
theorem pcsTo_ne {r : Int} {l : List Cl} {ks : List Bool} : ∀ {i : Nat}, i < l.length → ks[i]? = some true → pcsTo r l ks (i + 1) ≠ []
  | 0, hi, hk => by
    rw [pcsTo_new (List.getElem?_eq_getElem hi) hk (.inl rfl)]; simp
  | i + 1, hi, hk => by
    by_cases h : ks[i + 1 - 1]? = some false
    · rw [pcsTo_new (List.getElem?_eq_getElem hi) hk (.inr h)]; simp
    · rw [pcsTo_more (List.getElem?_eq_getElem hi) hk (by rintro (h1 | h1); omega; exact h h1)]
      have h2 : ks[i]? = some true := by
        have hlt := (List.getElem?_eq_some_iff.1 hk).1
        cases hb : ks[i]? with
        | none => rw [List.getElem?_eq_none_iff] at hb; omega
        | some b =>
          cases b
          · exact absurd hb (by simpa using h)
          · rfl
      exact addLast_ne (pcsTo_ne (by omega) h2)
theorem addLast_len (xs : List Tr) (c : Cl) : (addLast xs c).length = xs.length := by
  rcases List.eq_nil_or_concat xs with h0 | ⟨E, x, h0⟩
  · subst h0; rfl
  · subst h0; rw [List.concat_eq_append, addLast_snoc]; simp
theorem pcsTo_len (r : Int) (l : List Cl) (ks : List Bool) : ∀ i, (pcsTo r l ks i).length ≤ i
  | 0 => by simp [pcsTo]
  | i + 1 => by
    have ih := pcsTo_len r l ks i
    rw [pcsTo]
    split
    · split
      · simp; omega
      · rw [addLast_len]; omega
    · omega
theorem pcsTo_cells (r : Int) (l : List Cl) (ks : List Bool) : ∀ i, ∀ t ∈ pcsTo r l ks i, t.2.length ≤ i
  | 0, t, ht => by simp [pcsTo] at ht
  | i + 1, t, ht => by
    have ih := pcsTo_cells r l ks i
    rw [pcsTo] at ht
    split at ht
    · split at ht
      · rcases List.mem_append.1 ht with h | h
        · have := ih t h; omega
        · rw [List.mem_singleton] at h; rw [h]; simp
      · rcases List.eq_nil_or_concat (pcsTo r l ks i) with h0 | ⟨E, x, h0⟩
        · rw [h0] at ht; simp [addLast] at ht
        · rw [h0, List.concat_eq_append, addLast_snoc] at ht
          rcases List.mem_append.1 ht with h | h
          · have := ih t (by rw [h0]; simp [h]); omega
          · rw [List.mem_singleton] at h
            have := ih x (by rw [h0]; simp)
            rw [h]; simp; omega
    · have := ih t ht; omega
/-- which cells occur for the first time, S having occurred before -/
def keptL (S : List Cl) : List Cl → List Bool
  | [] => []
  | c :: r => (!S.contains c) :: keptL (c :: S) r
theorem keptL_len : ∀ (l S : List Cl), (keptL S l).length = l.length
  | [], _ => rfl
  | c :: r, S => by simp [keptL, keptL_len r]
theorem keptL_snoc : ∀ (l S : List Cl) (c : Cl), keptL S (l ++ [c]) = keptL S l ++ [!((l.reverse ++ S).contains c)]
  | [], S, c => rfl
  | d :: r, S, c => by
    rw [List.cons_append, keptL, keptL, keptL_snoc r (d :: S) c]
    simp
def pcsT (t : Tr) (ks : List Bool) : List Tr := pcsTo t.1.1 t.2 ks t.2.length
def oncS (st : List Tr × List Cl) (t : Tr) : List Tr × List Cl :=
  if tval t then (st.1 ++ (if (keptL st.2 t.2).all id then [t] else pcsT t (keptL st.2 t.2)), t.2.reverse ++ st.2) else st
def oncTo (l : List Tr) (k : Nat) : List Tr × List Cl := (l.take k).foldl oncS ([], [])
def oncT (l : List Tr) : List Tr := (l.foldl oncS ([], [])).1
theorem oncTo_succ {l : List Tr} {k : Nat} {t : Tr} (h : l[k]? = some t) : oncTo l (k + 1) = oncS (oncTo l k) t := by
  unfold oncTo
  rw [List.take_add_one, h]; simp
theorem oncTo_all (l : List Tr) : (oncTo l l.length).1 = oncT l := by unfold oncTo oncT; rw [List.take_length]
def sumLen (l : List Tr) : Nat := (l.map fun t => t.2.length).sum
theorem oncTo_bd (l : List Tr) : ∀ k, (oncTo l k).1.length ≤ 65537 * k ∧ (oncTo l k).2.length ≤ 65536 * k
  | 0 => by simp [oncTo]
  | k + 1 => by
    have ih := oncTo_bd l k
    cases hk : l[k]? with
    | none =>
      have : oncTo l (k + 1) = oncTo l k := by
        unfold oncTo
        rw [List.take_add_one, hk]; simp
      rw [this]; omega
    | some t =>
      rw [oncTo_succ hk]
      unfold oncS
      split
      · rename_i hv
        have ht := (tval_len hv).2.2
        constructor
        · rw [List.length_append]
          split
          · simp; omega
          · have := pcsTo_len t.1.1 t.2 (keptL (oncTo l k).2 t.2) t.2.length
            unfold pcsT; omega
        · simp; omega
      · omega
end Trk
end Go.Proofs.Ytomndgjnhhchdaa

/- The chapter's Once: plain laws. -/
import Derived.Test.YtomndgjnhhchdaaTrkPure
namespace Go.Proofs.Ytomndgjnhhchdaa
set_option linter.unusedSimpArgs false
set_option linter.unusedVariables false
namespace Trk
/-- by Y, then by X -/
def ltC (a b : Cl) : Bool := decide (a.2 < b.2) || (decide (a.2 = b.2) && decide (a.1 < b.1))
theorem ltC_iff {a b : Cl} : ltC a b = true ↔ a.2 < b.2 ∨ a.2 = b.2 ∧ a.1 < b.1 := by simp [ltC]
theorem ltC_trans {a b c : Cl} (h : ltC a b = true) (h2 : ltC b c = true) : ltC a c = true := by
  rw [ltC_iff] at *; omega
theorem ltC_irr (a : Cl) : ltC a a = false := by
  cases h : ltC a a
  · rfl
  · rw [ltC_iff] at h; omega
theorem ltC_tot {a b : Cl} (h : ltC a b = false) (hne : a ≠ b) : ltC b a = true := by
  rw [← Bool.not_eq_true, ltC_iff] at h
  rw [ltC_iff]
  have : ¬ (a.1 = b.1 ∧ a.2 = b.2) := fun e => hne (Prod.ext e.1 e.2)
  omega
def SortC (S : List Cl) : Prop := S.Pairwise fun a b => ltC a b = true
def plcC (S : List Cl) (c : Cl) : Nat := S.countP fun x => ltC x c
theorem plcC_le (S : List Cl) (c : Cl) : plcC S c ≤ S.length := List.countP_le_length
/-- the elements ahead of the place are those that come before c -/
theorem plc_iff : ∀ {S : List Cl} (h : SortC S) (c : Cl) {i : Nat} {x : Cl}, S[i]? = some x → (ltC x c = true ↔ i < plcC S c)
  | [], _, _, i, _, hx => by simp at hx
  | a :: S, h, c, i, x, hx => by
    unfold SortC at h
    rw [List.pairwise_cons] at h
    have ih := fun {i x} hx => plc_iff (S := S) h.2 c (i := i) (x := x) hx
    unfold plcC at ih ⊢
    cases ha : ltC a c
    · have hz : S.countP (fun x => ltC x c) = 0 := by
        rw [List.countP_eq_zero]
        intro y hy hyc
        rw [ltC_trans (h.1 y hy) hyc] at ha
        cases ha
      rw [List.countP_cons_of_neg (by simp [ha]), hz]
      constructor
      · intro hxc
        match i, hx with
        | 0, hx => simp at hx; subst hx; rw [hxc] at ha; cases ha
        | i + 1, hx =>
          have := (ih (i := i) (by simpa using hx)).1 hxc
          omega
      · intro h0; omega
    · rw [List.countP_cons_of_pos (by simp [ha])]
      match i, hx with
      | 0, hx => simp at hx; subst hx; simp [ha]
      | i + 1, hx => rw [ih (i := i) (by simpa using hx)]; omega
theorem plc_mem {S : List Cl} (h : SortC S) (c : Cl) : c ∈ S ↔ S[plcC S c]? = some c := by
  constructor
  · intro hc
    obtain ⟨i, hi⟩ := List.getElem?_of_mem hc
    have h1 : ¬ i < plcC S c := fun hlt => by
      have := (plc_iff h c hi).2 hlt
      rw [ltC_irr] at this; cases this
    rcases Nat.lt_or_ge (plcC S c) i with hlt | hge
    · have hlen := (List.getElem?_eq_some_iff.1 hi).1
      obtain ⟨y, hy⟩ : ∃ y, S[plcC S c]? = some y := ⟨_, List.getElem?_eq_getElem (by omega)⟩
      have h2 : ltC y c = true := by
        have h3 := (List.pairwise_iff_getElem.1 h) (plcC S c) i (by omega) hlen hlt
        rw [(List.getElem?_eq_some_iff.1 hy).2, (List.getElem?_eq_some_iff.1 hi).2] at h3
        exact h3
      have := (plc_iff h c hy).1 h2
      omega
    · have : i = plcC S c := by omega
      rw [← this]; exact hi
  · intro hc; exact List.mem_of_getElem? hc
def insC (S : List Cl) (c : Cl) : List Cl := S.take (plcC S c) ++ c :: S.drop (plcC S c)
theorem insC_len (S : List Cl) (c : Cl) : (insC S c).length = S.length + 1 := by
  have := plcC_le S c
  unfold insC
  simp
  omega
theorem insC_mem {S : List Cl} {c x : Cl} : x ∈ insC S c ↔ x = c ∨ x ∈ S := by
  unfold insC
  conv => rhs; rw [← List.take_append_drop (plcC S c) S]
  simp only [List.mem_append, List.mem_cons]
  constructor
  · rintro (h | h | h)
    · exact .inr (.inl h)
    · exact .inl h
    · exact .inr (.inr h)
  · rintro (h | h | h)
    · exact .inr (.inl h)
    · exact .inl h
    · exact .inr (.inr h)
theorem insC_sort {S : List Cl} (h : SortC S) {c : Cl} (hc : c ∉ S) : SortC (insC S c) := by
  have h1 : ∀ x ∈ S.take (plcC S c), ltC x c = true := fun x hx => by
    obtain ⟨i, hi⟩ := List.getElem?_of_mem hx
    rw [List.getElem?_take] at hi
    split at hi
    · rename_i hlt
      exact (plc_iff h c hi).2 hlt
    · cases hi
  have h2 : ∀ x ∈ S.drop (plcC S c), ltC c x = true := fun x hx => by
    obtain ⟨i, hi⟩ := List.getElem?_of_mem hx
    rw [List.getElem?_drop] at hi
    have h3 : ltC x c = false := by
      cases hxc : ltC x c
      · rfl
      · have := (plc_iff h c hi).1 hxc; omega
    exact ltC_tot h3 (fun e => hc (e ▸ List.mem_of_mem_drop hx))
  unfold SortC insC
  rw [List.pairwise_append, List.pairwise_cons]
  refine ⟨h.sublist (List.take_sublist _ _), ⟨h2, h.sublist (List.drop_sublist _ _)⟩, fun a ha b hb => ?_⟩
  rcases List.mem_cons.1 hb with rfl | hb
  · exact h1 a ha
  · exact ltC_trans (h1 a ha) (h2 b hb)
/-- the chapter's loop: the pieces, whether the last one goes on, how many cells are kept, the cells seen -/
structure PR where
  out : List Tr
  joins : Bool
  kept : Nat
  seen : List Cl
def stepP (r : Int) (s : PR) (c : Cl) : PR :=
  if s.seen.contains c then { s with joins := false } else ⟨if s.joins then addLast s.out c else s.out ++ [((r, false), [c])], true, s.kept + 1, insC s.seen c⟩
def runP (r : Int) (l S : List Cl) (k : Nat) : PR := (l.take k).foldl (stepP r) ⟨[], false, 0, S⟩
theorem runP_succ {r : Int} {l S : List Cl} {k : Nat} {c : Cl} (h : l[k]? = some c) : runP r l S (k + 1) = stepP r (runP r l S k) c := by
  unfold runP
  rw [List.take_add_one, h]; simp
theorem keptL_out {l S Q : List Cl} (hq : ∀ c, c ∈ S ↔ c ∈ Q) : keptL Q l = keptL S l := by
  have : ∀ (l S Q : List Cl), (∀ c, c ∈ S ↔ c ∈ Q) → keptL Q l = keptL S l := by
    intro l
    induction l with
    | nil => intro S Q _; rfl
    | cons c l ih =>
      intro S Q h
      unfold keptL
      rw [ih (c :: S) (c :: Q) (fun d => by simp [h])]
      congr 2
      rw [Bool.eq_iff_iff]
      simp [h]
  exact this l S Q hq
theorem runP_inv (r : Int) (l S Q : List Cl) (hS : SortC S) (hq : ∀ c, c ∈ S ↔ c ∈ Q) : ∀ k, k ≤ l.length →
    (runP r l S k).out = pcsTo r l (keptL Q l) k ∧ ((runP r l S k).joins = true ↔ 0 < k ∧ (keptL Q l)[k - 1]? = some true) ∧
    (runP r l S k).kept = ((keptL Q l).take k).countP id ∧ SortC (runP r l S k).seen ∧ (∀ c, c ∈ (runP r l S k).seen ↔ c ∈ l.take k ∨ c ∈ Q) ∧ (runP r l S k).seen.length ≤ S.length + k
  | 0, _ => ⟨rfl, by simp [runP], by simp [runP], hS, fun c => by simp [runP, hq], Nat.le_refl _⟩
  | k + 1, hk => by
    obtain ⟨h1, h2, h3, h4, h5, h6⟩ := runP_inv r l S Q hS hq k (by omega)
    obtain ⟨c, hc⟩ : ∃ c, l[k]? = some c := ⟨_, List.getElem?_eq_getElem (by omega)⟩
    have ht : l.take (k + 1) = l.take k ++ [c] := by rw [List.take_add_one, hc]; rfl
    have hkk : (keptL Q l)[k]? = some (!((l.take k).reverse ++ Q).contains c) := by rw [keptL_get, hc]; rfl
    have hks : (keptL Q l).take (k + 1) = (keptL Q l).take k ++ [!((l.take k).reverse ++ Q).contains c] := by rw [List.take_add_one, hkk]; rfl
    rw [runP_succ hc]
    unfold stepP
    by_cases hm : c ∈ l.take k ∨ c ∈ Q
    · have hmc : ((l.take k).reverse ++ Q).contains c = true := by rcases hm with h | h <;> simp [h]
      have hin : (runP r l S k).seen.contains c = true := by simpa using (h5 c).2 hm
      rw [if_pos hin]
      rw [hmc] at hkk hks
      refine ⟨?_, ?_, ?_, h4, fun d => ?_, by simp only; omega⟩
      · rw [pcsTo_skip hkk]; exact h1
      · simp [hkk]
      · rw [hks, List.countP_append, h3]; simp
      · rw [h5, ht, List.mem_append, List.mem_singleton]
        constructor
        · rintro (a | a)
          · exact .inl (.inl a)
          · exact .inr a
        · rintro ((a | rfl) | a)
          · exact .inl a
          · exact hm
          · exact .inr a
    · have hm1 : c ∉ l.take k := fun h => hm (.inl h)
      have hm2 : c ∉ Q := fun h => hm (.inr h)
      have hmc : ((l.take k).reverse ++ Q).contains c = false := by
        rw [Bool.eq_false_iff]
        simp [hm1, hm2]
      have hnin : c ∉ (runP r l S k).seen := fun h => hm ((h5 c).1 h)
      have hin : ¬ (runP r l S k).seen.contains c = true := by simpa using hnin
      rw [if_neg hin]
      rw [hmc] at hkk hks
      refine ⟨?_, ?_, ?_, insC_sort h4 hnin, fun d => ?_, by simp only; rw [insC_len]; omega⟩
      · cases hj : (runP r l S k).joins
        · have hp : k = 0 ∨ (keptL Q l)[k - 1]? = some false := by
            rcases Nat.eq_zero_or_pos k with h0 | h0
            · exact .inl h0
            · right
              obtain ⟨b, hb⟩ : ∃ b, (keptL Q l)[k - 1]? = some b := ⟨_, List.getElem?_eq_getElem (by rw [keptL_len]; omega)⟩
              cases b
              · exact hb
              · rw [h2.2 ⟨h0, hb⟩] at hj; cases hj
          rw [pcsTo_new hc hkk hp]
          simp [h1]
        · obtain ⟨h0, hb⟩ := h2.1 hj
          rw [pcsTo_more hc hkk (by rintro (a | a); omega; rw [hb] at a; cases a)]
          simp [h1]
      · simp [hkk]
      · rw [hks, List.countP_append, h3]; simp
      · rw [insC_mem, h5, ht, List.mem_append, List.mem_singleton]
        constructor
        · rintro (rfl | a | a)
          · exact .inl (.inr rfl)
          · exact .inl (.inl a)
          · exact .inr a
        · rintro ((a | rfl) | a)
          · exact .inr (.inl a)
          · exact .inl rfl
          · exact .inr (.inr a)
/-- all cells kept: one piece -/
theorem pcs_all (r : Int) (l : List Cl) (ks : List Bool) (hk : ∀ i < l.length, ks[i]? = some true) : ∀ k, 0 < k → k ≤ l.length → pcsTo r l ks k = [((r, false), l.take k)]
  | 0, h, _ => absurd h (by omega)
  | k + 1, _, hk2 => by
    obtain ⟨c, hc⟩ : ∃ c, l[k]? = some c := ⟨_, List.getElem?_eq_getElem (by omega)⟩
    have ht : l.take (k + 1) = l.take k ++ [c] := by rw [List.take_add_one, hc]; rfl
    rcases Nat.eq_zero_or_pos k with h0 | h0
    · subst h0
      rw [pcsTo_new hc (hk 0 (by omega)) (.inl rfl), ht]
      simp [pcsTo]
    · rw [pcsTo_more hc (hk k (by omega)) (by rintro (a | a); omega; rw [hk (k - 1) (by omega)] at a; cases a), pcs_all r l ks hk k h0 (by omega), ht]
      rfl
def closeP (cl : Bool) (n : Nat) (s : PR) : List Tr := if s.kept = n then (match s.out with | x :: r => ((x.1.1, cl), x.2) :: r | [] => []) else s.out
theorem all_id {l : List Bool} : l.countP id = l.length ↔ l.all id = true := by
  rw [List.countP_eq_length, List.all_eq_true]
/-- the chapter's pieces are those of the program -/
theorem pcsR_is {r : Int} {cl : Bool} {l S Q : List Cl} (hv : tval ((r, cl), l) = true) (hS : SortC S) (hq : ∀ c, c ∈ S ↔ c ∈ Q) :
    closeP cl l.length (runP r l S l.length) = (if (keptL Q l).all id then [((r, cl), l)] else pcsT ((r, cl), l) (keptL Q l)) := by
  obtain ⟨h1, _, h3, _⟩ := runP_inv r l S Q hS hq l.length (Nat.le_refl _)
  have hl := (tval_len hv).2.1
  simp only at hl
  have e : (keptL Q l).take l.length = keptL Q l := by rw [List.take_of_length_le (by rw [keptL_len]; exact Nat.le_refl _)]
  rw [e] at h3
  unfold closeP
  rw [h3]
  by_cases ha : (keptL Q l).all id = true
  · rw [if_pos (by rw [all_id.2 ha, keptL_len]), if_pos ha, h1, pcs_all r l _ (fun i hi => ?_) l.length (by omega) (Nat.le_refl _)]
    · simp
    · obtain ⟨b, hb⟩ : ∃ b, (keptL Q l)[i]? = some b := ⟨_, List.getElem?_eq_getElem (by rw [keptL_len]; exact hi)⟩
      have := List.all_eq_true.1 ha b (List.mem_of_getElem? hb)
      rw [hb]; simpa using this
  · rw [if_neg (fun hc => ha (all_id.1 (by rw [hc, keptL_len]))), if_neg ha, h1]
    rfl
/-- the fold of the chapter's Once: the tracks and the cells seen, in order -/
def oncP (st : List Tr × List Cl) (t : Tr) : List Tr × List Cl := if tval t then (st.1 ++ closeP t.1.2 t.2.length (runP t.1.1 t.2 st.2 t.2.length), (runP t.1.1 t.2 st.2 t.2.length).seen) else st
def oncPTo (l : List Tr) (k : Nat) : List Tr × List Cl := (l.take k).foldl oncP ([], [])
theorem oncPTo_succ {l : List Tr} {k : Nat} {t : Tr} (h : l[k]? = some t) : oncPTo l (k + 1) = oncP (oncPTo l k) t := by
  unfold oncPTo
  rw [List.take_add_one, h]; simp
theorem oncP_inv (l : List Tr) : ∀ k, k ≤ l.length → (oncPTo l k).1 = (oncTo l k).1 ∧ SortC (oncPTo l k).2 ∧ (∀ c, c ∈ (oncPTo l k).2 ↔ c ∈ (oncTo l k).2) ∧ (oncPTo l k).2.length ≤ 65536 * k
  | 0, _ => ⟨rfl, List.Pairwise.nil, fun c => by simp [oncPTo, oncTo], by simp [oncPTo]⟩
  | k + 1, hk => by
    obtain ⟨h1, h2, h3, h4⟩ := oncP_inv l k (by omega)
    obtain ⟨t, ht⟩ : ∃ t, l[k]? = some t := ⟨_, List.getElem?_eq_getElem (by omega)⟩
    rw [oncPTo_succ ht, oncTo_succ ht]
    unfold oncP oncS
    by_cases hv : tval t = true
    · rw [if_pos hv, if_pos hv]
      obtain ⟨⟨r, cl⟩, cs⟩ := t
      obtain ⟨_, _, _, i4, i5, i6⟩ := runP_inv r cs (oncPTo l k).2 (oncTo l k).2 h2 h3 cs.length (Nat.le_refl _)
      refine ⟨?_, i4, fun c => ?_, ?_⟩
      · simp only
        rw [pcsR_is hv h2 h3, h1]
      · simp only
        rw [i5, List.take_length, List.mem_append, List.mem_reverse]
      · have := (tval_len hv).2.2
        simp only at this ⊢
        omega
    · rw [if_neg hv, if_neg hv]
      exact ⟨h1, h2, h3, by omega⟩
theorem oncP_all (l : List Tr) : (oncPTo l l.length).1 = oncT l := by rw [(oncP_inv l l.length (Nat.le_refl _)).1, oncTo_all]
end Trk
end Go.Proofs.Ytomndgjnhhchdaa

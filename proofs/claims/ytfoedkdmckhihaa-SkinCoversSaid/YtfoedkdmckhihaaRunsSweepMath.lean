/- The sweep over the bounds of two lists: what holds at each of its steps; with no program in sight. -/
import Derived.Test.YtfoedkdmckhihaaRunsMath2
namespace Go.Proofs.Ytfoedkdmckhihaa
set_option linter.unusedSimpArgs false
set_option linter.unusedVariables false
namespace Runs
/-- the i-th bound of a list -/
def bdAt (l : List Run) (i : Nat) : Int := if i % 2 = 1 then (l[i / 2]?.getD (0, 0)).2 else (l[i / 2]?.getD (0, 0)).1
def nextB (l : List Run) (i : Nat) : Int := if i = 2 * l.length then 1048577 else bdAt l i
def passB (l : List Run) (i : Nat) (x : Int) : Nat := if nextB l i = x then i + 1 else i
def odd (i : Nat) : Bool := decide (i % 2 = 1)
theorem bdAt_even {l : List Run} {m : Nat} (h : m < l.length) : bdAt l (2 * m) = l[m].1 := by
  unfold bdAt; rw [if_neg (by omega), show 2 * m / 2 = m by omega, List.getElem?_eq_getElem h]; rfl
theorem bdAt_odd {l : List Run} {m : Nat} (h : m < l.length) : bdAt l (2 * m + 1) = l[m].2 := by
  unfold bdAt; rw [if_pos (by omega), show (2 * m + 1) / 2 = m by omega, List.getElem?_eq_getElem h]; rfl
theorem bdAt_step {l : List Run} (hs : Sep l) {k : Nat} (h : k + 1 < 2 * l.length) : bdAt l k < bdAt l (k + 1) := by
  rcases Nat.mod_two_eq_zero_or_one k with h0 | h0
  · obtain ⟨m, rfl⟩ : ∃ m, k = 2 * m := ⟨k / 2, by omega⟩
    rw [bdAt_even (by omega), bdAt_odd (by omega)]
    exact hs.1 _ (List.getElem_mem _)
  · obtain ⟨m, rfl⟩ : ∃ m, k = 2 * m + 1 := ⟨k / 2, by omega⟩
    rw [bdAt_odd (by omega), show 2 * m + 1 + 1 = 2 * (m + 1) by omega, bdAt_even (by omega)]
    exact List.pairwise_iff_getElem.1 hs.2 m (m + 1) _ _ (by omega)
theorem bdAt_lt {l : List Run} (hs : Sep l) {k m : Nat} (h1 : k < m) (h2 : m < 2 * l.length) : bdAt l k < bdAt l m := by
  induction m with
  | zero => omega
  | succ m ih =>
    have := bdAt_step hs (k := m) (by omega)
    rcases Nat.eq_or_lt_of_le (Nat.le_of_lt_succ h1) with rfl | h
    · exact this
    · have := ih h (by omega); omega
theorem bdAt_fit {l : List Run} (hf : Fit l) {k : Nat} (h : k < 2 * l.length) : -1048576 ≤ bdAt l k ∧ bdAt l k ≤ 1048576 := by
  rcases Nat.mod_two_eq_zero_or_one k with h0 | h0
  · obtain ⟨m, rfl⟩ : ∃ m, k = 2 * m := ⟨k / 2, by omega⟩
    rw [bdAt_even (by omega)]
    have := hf _ (List.getElem_mem (by omega : m < l.length))
    simp [fits] at this; omega
  · obtain ⟨m, rfl⟩ : ∃ m, k = 2 * m + 1 := ⟨k / 2, by omega⟩
    rw [bdAt_odd (by omega)]
    have := hf _ (List.getElem_mem (by omega : m < l.length))
    simp [fits] at this; omega
/-- the first i bounds are at most y, the others are greater -/
def Split (l : List Run) (i : Nat) (y : Int) : Prop := (∀ k, k < i → k < 2 * l.length → bdAt l k ≤ y) ∧ ∀ k, i ≤ k → k < 2 * l.length → y < bdAt l k
theorem split_mem {l : List Run} {i : Nat} {y : Int} (h : Split l i y) (hi : i ≤ 2 * l.length) : mem l y = odd i := by
  rw [Bool.eq_iff_iff, mem_iff]
  unfold odd
  rw [decide_eq_true_eq]
  constructor
  · rintro ⟨r, hr, h1, h2⟩
    obtain ⟨m, hm, rfl⟩ := List.getElem_of_mem hr
    rw [← bdAt_even hm] at h1
    rw [← bdAt_odd hm] at h2
    have h3 : 2 * m < i := Nat.lt_of_not_le fun hc => by have := h.2 _ hc (by omega); omega
    have h4 : i ≤ 2 * m + 1 := Nat.le_of_not_lt fun hc => by have := h.1 _ hc (by omega); omega
    omega
  · intro ho
    obtain ⟨m, rfl⟩ : ∃ m, i = 2 * m + 1 := ⟨i / 2, by omega⟩
    have hm : m < l.length := by omega
    refine ⟨l[m], List.getElem_mem hm, ?_, ?_⟩
    · rw [← bdAt_even hm]; exact h.1 _ (by omega) (by omega)
    · rw [← bdAt_odd hm]; exact h.2 _ (Nat.le_refl _) (by omega)
theorem split_next {l : List Run} {i : Nat} {x x' : Int} (hs : Sep l) (hf : Fit l) (hi : i ≤ 2 * l.length) (h : Split l i x) (h1 : x < x') (h2 : x' ≤ nextB l i) (h3 : x' ≤ 1048576) :
    Split l (passB l i x') x' ∧ passB l i x' ≤ 2 * l.length ∧ ∀ y, x ≤ y → y < x' → Split l i y := by
  have ge : ∀ k, i ≤ k → k < 2 * l.length → bdAt l i ≤ bdAt l k := fun k hk hk2 => by
    rcases Nat.eq_or_lt_of_le hk with rfl | hlt
    · exact Int.le_refl _
    · exact Int.le_of_lt (bdAt_lt hs hlt hk2)
  unfold passB nextB at *
  by_cases hov : i = 2 * l.length
  · simp only [hov, if_true] at *
    rw [if_neg (by omega)]
    exact ⟨⟨fun k hk hk2 => by have := h.1 k hk hk2; omega, fun k hk hk2 => by omega⟩, Nat.le_refl _, fun y hy1 hy2 => ⟨fun k hk hk2 => by have := h.1 k hk hk2; omega, fun k hk hk2 => by omega⟩⟩
  · have hlt : i < 2 * l.length := by omega
    simp only [hov, if_false] at *
    refine ⟨?_, by split <;> omega, fun y hy1 hy2 => ⟨fun k hk hk2 => by have := h.1 k hk hk2; omega, fun k hk hk2 => by have := ge k hk hk2; omega⟩⟩
    split
    · rename_i he
      refine ⟨fun k hk hk2 => ?_, fun k hk hk2 => ?_⟩
      · rcases Nat.eq_or_lt_of_le (Nat.le_of_lt_succ hk) with rfl | hlt
        · omega
        · have := h.1 k hlt hk2; omega
      · have := bdAt_lt hs (k := i) (m := k) (by omega) hk2; omega
    · rename_i he
      exact ⟨fun k hk hk2 => by have := h.1 k hk hk2; omega, fun k hk hk2 => by have := ge k hk hk2; omega⟩
def setTo (l : List Run) (x : Int) : List Run := match l.getLast? with
  | some q => l.dropLast ++ [(q.1, x)]
  | none => []
theorem setTo_last (E : List Run) (q : Run) (x : Int) : setTo (E ++ [q]) x = E ++ [(q.1, x)] := by simp [setTo]
/-- what holds behind the bound x -/
structure SInv (f : Bool → Bool → Bool) (a b : List Run) (i j : Nat) (out : List Run) (opn : Bool) (x : Int) : Prop where
  hi : i ≤ 2 * a.length
  hj : j ≤ 2 * b.length
  len : out.length ≤ i + j
  sa : Split a i x
  sb : Split b j x
  ho : opn = f (odd i) (odd j)
  closed : opn = false → Sep out ∧ (∀ q ∈ out, q.2 ≤ x) ∧ ∀ y, y ≤ x → mem out y = f (mem a y) (mem b y)
  opened : opn = true → ∃ E s, out = E ++ [(s, 0)] ∧ s ≤ x ∧ Sep E ∧ (∀ q ∈ E, q.2 < s) ∧ ∀ y, y ≤ x → (mem E y || decide (s ≤ y)) = f (mem a y) (mem b y)
section
variable {f : Bool → Bool → Bool} {a b : List Run} {i j : Nat} {out : List Run} {opn : Bool} {x : Int}
theorem sinv_start (hf : f false false = false) (ha : valid a = true) (hb : valid b = true) : SInv f a b 0 0 [] false (-1048577) := by
  have fa := (valid_iff.1 ha).2
  have fb := (valid_iff.1 hb).2
  have s1 : Split a 0 (-1048577) := ⟨fun k hk => by omega, fun k _ hk => by have := bdAt_fit fa hk; omega⟩
  have s2 : Split b 0 (-1048577) := ⟨fun k hk => by omega, fun k _ hk => by have := bdAt_fit fb hk; omega⟩
  refine ⟨Nat.zero_le _, Nat.zero_le _, Nat.le_refl _, s1, s2, hf.symm, fun _ => ⟨sep_nil, by simp, fun y hy => ?_⟩, fun h => by cases h⟩
  have t1 : Split a 0 y := ⟨fun k hk => by omega, fun k h0 hk => by have := s1.2 k h0 hk; omega⟩
  have t2 : Split b 0 y := ⟨fun k hk => by omega, fun k h0 hk => by have := s2.2 k h0 hk; omega⟩
  rw [split_mem t1 (Nat.zero_le _), split_mem t2 (Nat.zero_le _)]
  exact hf.symm
theorem mem_above {E : List Run} {y : Int} (h : ∀ q ∈ E, q.2 ≤ y) : mem E y = false := by
  rw [Bool.eq_false_iff]; intro hm
  obtain ⟨q, hq, h1, h2⟩ := mem_iff.1 hm
  have := h q hq; omega
/-- one step of the sweep -/
theorem sinv_step (ha : valid a = true) (hb : valid b = true) (h : SInv f a b i j out opn x) (hne : i ≠ 2 * a.length ∨ j ≠ 2 * b.length) {x' : Int} (hx : x' = min (nextB a i) (nextB b j)) :
    SInv f a b (passB a i x') (passB b j x') (if f (odd (passB a i x')) (odd (passB b j x')) && !opn then out ++ [(x', 0)] else if !f (odd (passB a i x')) (odd (passB b j x')) && opn then setTo out x' else out) (f (odd (passB a i x')) (odd (passB b j x'))) x' ∧
    i + j < passB a i x' + passB b j x' ∧ passB a i x' + passB b j x' ≤ 2 * a.length + 2 * b.length := by
  obtain ⟨sa, fa⟩ := valid_iff.1 ha
  obtain ⟨sb, fb⟩ := valid_iff.1 hb
  have hi := h.hi
  have hj := h.hj
  have na : x < nextB a i := by
    unfold nextB; split
    · rename_i he
      rcases hne with h0 | h0
      · exact absurd he h0
      · have := h.sb.2 j (Nat.le_refl _) (by omega); have := bdAt_fit fb (k := j) (by omega); omega
    · exact h.sa.2 i (Nat.le_refl _) (by omega)
  have nb : x < nextB b j := by
    unfold nextB; split
    · rename_i he
      rcases hne with h0 | h0
      · have := h.sa.2 i (Nat.le_refl _) (by omega); have := bdAt_fit fa (k := i) (by omega); omega
      · exact absurd he h0
    · exact h.sb.2 j (Nat.le_refl _) (by omega)
  have h1 : x < x' := by omega
  have h3 : x' ≤ 1048576 := by
    rcases hne with h0 | h0
    · have := bdAt_fit fa (k := i) (by omega); have e : nextB a i = bdAt a i := by unfold nextB; rw [if_neg h0]
      omega
    · have := bdAt_fit fb (k := j) (by omega); have e : nextB b j = bdAt b j := by unfold nextB; rw [if_neg h0]
      omega
  obtain ⟨p1, p2, p3⟩ := split_next sa fa hi h.sa h1 (by omega) h3
  obtain ⟨q1, q2, q3⟩ := split_next sb fb hj h.sb h1 (by omega) h3
  have adv : i + j < passB a i x' + passB b j x' := by
    unfold passB
    rcases Int.le_total (nextB a i) (nextB b j) with hc | hc
    · rw [if_pos (by omega : nextB a i = x')]; split <;> omega
    · rw [if_pos (by omega : nextB b j = x')]; split <;> omega
  generalize passB a i x' = i' at *
  generalize passB b j x' = j' at *
  have between : ∀ y, x < y → y < x' → f (mem a y) (mem b y) = opn := fun y hy1 hy2 => by
    rw [split_mem (p3 y (by omega) hy2) hi, split_mem (q3 y (by omega) hy2) hj]; exact h.ho.symm
  have atx : f (mem a x') (mem b x') = f (odd i') (odd j') := by rw [split_mem p1 p2, split_mem q1 q2]
  refine ⟨?_, adv, by omega⟩
  generalize hn : f (odd i') (odd j') = now at *
  have hl := h.len
  cases opn
  · obtain ⟨c1, c2, c3⟩ := h.closed rfl
    have off : ∀ y, x < y → mem out y = false := fun y hy => mem_above fun q hq => by have := c2 q hq; omega
    cases now
    · refine ⟨p2, q2, by simp; omega, p1, q1, hn.symm, fun _ => ⟨c1, fun q hq => by have := c2 q hq; omega, fun y hy => ?_⟩, fun h => by cases h⟩
      show mem out y = _
      rcases Int.lt_or_le x y with hc | hc
      · rw [off y hc]
        rcases Int.lt_or_le y x' with hd | hd
        · rw [between y hc hd]
        · have : y = x' := by omega
          rw [this, atx]
      · exact c3 y hc
    · refine ⟨p2, q2, by simp; omega, p1, q1, hn.symm, (fun h => by cases h), fun _ => ⟨out, x', rfl, Int.le_refl _, c1, fun q hq => by have := c2 q hq; omega, fun y hy => ?_⟩⟩
      rcases Int.lt_or_le x y with hc | hc
      · rw [off y hc]
        rcases Int.lt_or_le y x' with hd | hd
        · rw [between y hc hd]; simp; omega
        · have : y = x' := by omega
          rw [this, atx]; simp
      · rw [c3 y hc]
        have : decide (x' ≤ y) = false := by simp; omega
        rw [this, Bool.or_false]
  · obtain ⟨E, s, rfl, o1, o2, o3, o4⟩ := h.opened rfl
    have off : ∀ y, s ≤ y → mem E y = false := fun y hy => mem_above fun q hq => by have := o3 q hq; omega
    cases now
    · have e : (if (false && !true) = true then E ++ [(s, 0)] ++ [(x', 0)] else if (!false && true) = true then setTo (E ++ [(s, 0)]) x' else E ++ [(s, 0)]) = E ++ [(s, x')] := by simp [setTo_last]
      rw [e]
      refine ⟨p2, q2, by simp at hl ⊢; omega, p1, q1, hn.symm, fun _ => ⟨sep_append.2 ⟨o2, by simp [Sep]; omega, fun q hq r hr => ?_⟩, fun q hq => ?_, fun y hy => ?_⟩, fun h => by cases h⟩
      · simp at hr; subst hr; exact o3 q hq
      · simp at hq; rcases hq with hq | rfl
        · have := o3 q hq; omega
        · simp
      · rw [mem_append]
        have e2 : mem [(s, x')] y = (decide (s ≤ y) && decide (y < x')) := by simp [mem, inR]
        rw [e2]
        rcases Int.lt_or_le x y with hc | hc
        · rcases Int.lt_or_le y x' with hd | hd
          · rw [between y hc hd]
            have : decide (s ≤ y) = true := by simp; omega
            simp [this, hd]
          · have : y = x' := by omega
            rw [this, atx, off x' (by omega)]; simp
        · rw [← o4 y hc]
          have : decide (y < x') = true := by simp; omega
          rw [this, Bool.and_true]
    · refine ⟨p2, q2, by simp at hl ⊢; omega, p1, q1, hn.symm, (fun h => by cases h), fun _ => ⟨E, s, rfl, by omega, o2, o3, fun y hy => ?_⟩⟩
      rcases Int.lt_or_le x y with hc | hc
      · have hsy : decide (s ≤ y) = true := by simp; omega
        rw [hsy, Bool.or_true]
        rcases Int.lt_or_le y x' with hd | hd
        · rw [between y hc hd]
        · have : y = x' := by omega
          rw [this, atx]
      · exact o4 y hc
/-- at the end the list is that of the set -/
theorem sinv_end (hf : f false false = false) (h : SInv f a b (2 * a.length) (2 * b.length) out opn x) : out = choose f a b := by
  have o1 : odd (2 * a.length) = false := by simp [odd]
  have o2 : odd (2 * b.length) = false := by simp [odd]
  have ho := h.ho
  rw [o1, o2, hf] at ho
  obtain ⟨c1, c2, c3⟩ := h.closed ho
  obtain ⟨d1, d2⟩ := choose_spec hf a b
  refine sep_ext c1 d1 fun y => ?_
  rw [d2]
  rcases Int.lt_or_le x y with hc | hc
  · rw [mem_above fun q hq => by have := c2 q hq; omega]
    have t1 : Split a (2 * a.length) y := ⟨fun k hk hk2 => by have := h.sa.1 k hk hk2; omega, fun k hk hk2 => by omega⟩
    have t2 : Split b (2 * b.length) y := ⟨fun k hk hk2 => by have := h.sb.1 k hk hk2; omega, fun k hk hk2 => by omega⟩
    rw [split_mem t1 (Nat.le_refl _), split_mem t2 (Nat.le_refl _), o1, o2, hf]
  · exact c3 y hc
end
end Runs
end Go.Proofs.Ytfoedkdmckhihaa

/- Lemmas: SortInts. -/
import Derived.Sort.OwnSortedInts
import Derived.Test.YtneelidbgigehaaGreatT01
import Derived.Test.YtneelidbgigehaaGreatShelf2
import Derived.Test.YtneelidbgigehaaGreatT02
/- slices.Sort and slices.Compact over a slice of ints that the call owns. -/
namespace Go.Proofs.YtneelidbgigehaaGreat
set_option linter.unusedSimpArgs false
set_option linter.unusedVariables false
open Go.Shelf Go.RowKit Go.Lib Go.Sort Go.Proofs
theorem compactUpTo_spec (d : Array Int) (hs : ∀ j, j + 1 < d.size → d[j]! ≤ d[j + 1]!) : ∀ m, m ≤ d.size →
    (compactUpTo d m).Pairwise (· < ·) ∧ (∀ y ∈ compactUpTo d m, y ≤ d[m - 1]!) ∧ ∀ y, y ∈ compactUpTo d m ↔ ∃ j, j < m ∧ d[j]! = y := by
  intro m
  induction m with
  | zero => intro _; exact ⟨by simp [compactUpTo], by simp [compactUpTo], by simp [compactUpTo]⟩
  | succ m ih =>
    intro hm
    obtain ⟨h1, h2, h3⟩ := ih (by omega)
    rw [compactUpTo_succ, Nat.add_sub_cancel]
    have hle : ∀ y ∈ compactUpTo d m, y ≤ d[m]! := fun y hy => by
      have a := h2 y hy
      rcases Nat.eq_zero_or_pos m with h0 | h0
      · subst h0; simp [compactUpTo] at hy
      · have b := hs (m - 1) (by omega)
        rw [show m - 1 + 1 = m by omega] at b
        omega
    by_cases hk : keeps d m
    · simp only [hk, if_true]
      have hlt : ∀ y ∈ compactUpTo d m, y < d[m]! := fun y hy => by
        have a := h2 y hy
        rcases Nat.eq_zero_or_pos m with h0 | h0
        · subst h0; simp [compactUpTo] at hy
        · have b := hs (m - 1) (by omega)
          rw [show m - 1 + 1 = m by omega] at b
          simp only [keeps, decide_eq_true_eq] at hk
          rcases hk with hk | hk
          · omega
          · omega
      refine ⟨?_, fun y hy => ?_, fun y => ?_⟩
      · rw [List.pairwise_append]
        exact ⟨h1, by simp, fun a ha b hb => by rw [List.mem_singleton.1 hb]; exact hlt a ha⟩
      · rcases List.mem_append.1 hy with hy | hy
        · exact hle y hy
        · rw [List.mem_singleton.1 hy]; exact Int.le_refl _
      · rw [List.mem_append, h3, List.mem_singleton]
        constructor
        · rintro (⟨j, hj, e⟩ | e)
          · exact ⟨j, by omega, e⟩
          · exact ⟨m, by omega, e.symm⟩
        · rintro ⟨j, hj, e⟩
          by_cases hjm : j = m
          · right; rw [← e, hjm]
          · left; exact ⟨j, by omega, e⟩
    · have hkf : keeps d m = false := by simpa using hk
      simp only [hkf, Bool.false_eq_true, if_false, List.append_nil]
      refine ⟨h1, hle, fun y => ?_⟩
      rw [h3]
      have he : 0 < m ∧ d[m]! = d[m - 1]! := by
        simp only [keeps, decide_eq_false_iff_not, not_or, Decidable.not_not] at hkf
        exact ⟨by omega, hkf.2⟩
      constructor
      · rintro ⟨j, hj, e⟩; exact ⟨j, by omega, e⟩
      · rintro ⟨j, hj, e⟩
        by_cases hjm : j = m
        · exact ⟨m - 1, by omega, by rw [← he.2, ← hjm]; exact e⟩
        · exact ⟨j, by omega, e⟩
theorem compact_spec {zs : List Int} (h : zs.Pairwise (· ≤ ·)) : Runs.Asc (Lib.compact zs) ∧ ∀ y, y ∈ Lib.compact zs ↔ y ∈ zs := by
  obtain ⟨h1, _, h3⟩ := compactUpTo_spec zs.toArray (fun j hj => by
    have hj' : j + 1 < zs.length := by simpa using hj
    have := List.pairwise_iff_getElem.1 h j (j + 1) (by omega) hj' (by omega)
    simpa [hj', show j < zs.length by omega] using this) zs.length (by simp)
  refine ⟨h1, fun y => ?_⟩
  unfold Lib.compact
  rw [h3]
  constructor
  · rintro ⟨j, hj, rfl⟩; simp [hj]
  · intro hy
    obtain ⟨j, hj, rfl⟩ := List.getElem_of_mem hy
    exact ⟨j, hj, by simp [hj]⟩
theorem compact_len (zs : List Int) : (Lib.compact zs).length ≤ zs.length := by
  unfold Lib.compact compactUpTo
  rw [List.length_map]
  refine Nat.le_trans (List.length_filter_le _ _) ?_
  simp
theorem flatI (xs : List Int) : xs.flatMap encI = xs.map (Value.int .i64) := by
  induction xs with
  | nil => rfl
  | cons x xs ih => simp [encI, ih]
theorem grow_nil (w : World) : grow w #[] = w := by simp [grow]
/-- slices.Sort at a slice that the call owns -/
theorem sort_ints (base : Nat) (w : World) (v : Value) (xs : List Int) (hown : w.ownsRow base 3 1 v xs.length (xs.flatMap encI)) (hlen : xs.length < 4611686018427387904) :
    Calls Tryz.prog 108 #[v] w fun r w' => r = .returned (.tuple #[]) ∧ ∃ ys : List Int, ys.Perm xs ∧ ys.Pairwise (· ≤ ·) ∧ w'.ownsRow base 3 1 v ys.length (ys.flatMap encI) ∧ w.grownBy w' v.ownBlock := by
  rw [flatI] at hown
  rcases hown.2 with ⟨rfl, h0⟩ | ⟨g, cap, cur, rfl, hg, hb, hn, hcap, hsz, htk⟩
  · have hxs : xs = [] := List.eq_nil_of_length_eq_zero h0
    subst hxs
    exact (AnyG.slices_Sort_int_none Tryz.sortInts none 0 w).mono fun _ _ ⟨he, hw⟩ => ⟨he, [], List.Perm.refl _, List.Pairwise.nil, by rw [hw]; exact hown, by rw [hw]; exact World.grownBy.refl _ _⟩
  · rw [Nat.mul_one] at htk
    refine (AnyG.slices_Sort_int Tryz.sortInts g 0 cap xs w (holds_of_blockI hb htk) (Array.getElem?_eq_some_iff.1 hb).1 hlen).mono fun _ _ ⟨he, n, os, hw⟩ => ⟨he, xs.mergeSort fun x y => decide (x ≤ y), List.mergeSort_perm _ _, ?_, ?_, ?_⟩
    · have := List.pairwise_mergeSort (le := fun x y : Int => decide (x ≤ y)) (fun a b c h1 h2 => by simp at *; omega) (fun a b => by simp; omega) xs
      exact this.imp fun h => by simpa using h
    · rw [hw, flatI, List.length_mergeSort]
      exact ownsRow_sortedI (ss := xs) (by simp) hg hb hn hcap (by omega)
    · rw [hw]; exact grownBy_sortedI _
/-- slices.Compact at a slice that the call owns -/
theorem compact_ints (base : Nat) (w : World) (v : Value) (xs : List Int) (hown : w.ownsRow base 3 1 v xs.length (xs.flatMap encI)) (hlen : xs.length < 4611686018427387904) :
    Calls Tryz.prog 109 #[v] w fun r w' => (∃ u, r = .returned u ∧ Rd 1 encI w' u (Lib.compact xs)) ∧ w.grownBy w' v.ownBlock := by
  rw [flatI] at hown
  rcases hown.2 with ⟨rfl, h0⟩ | ⟨g, cap, cur, rfl, hg, hb, hn, hcap, hsz, htk⟩
  · have hxs : xs = [] := List.eq_nil_of_length_eq_zero h0
    subst hxs
    exact (AnyG.slices_Compact_int_empty Tryz.compactInts none 0 w).mono fun _ _ ⟨he, hw⟩ => ⟨⟨_, he, Rd.nil⟩, by rw [hw]; exact World.grownBy.refl _ _⟩
  · rw [Nat.mul_one] at htk
    refine (AnyG.slices_Compact_int Tryz.compactInts g 0 cap xs w (holds_of_blockI hb htk) (by omega) hn).mono fun _ _ ⟨he, n, hw⟩ => ⟨⟨_, he, ?_⟩, ?_⟩
    · have hl := compact_len xs
      have h1 := ownsRow_sortedI (w := w) (n := n) (os := #[]) (ss := xs) (ts := Lib.compact xs ++ List.replicate (xs.length - (Lib.compact xs).length) 0) (by simp; omega) hg hb hn hcap (by omega)
      rw [grow_nil, ← hw, ← flatI] at h1
      have hll : (Lib.compact xs ++ List.replicate (xs.length - (Lib.compact xs).length) (0 : Int)).length = xs.length := by simp; omega
      have h2 := Rd.own (xs := Lib.compact xs ++ List.replicate (xs.length - (Lib.compact xs).length) (0 : Int)) encI_len (by rw [hll]; exact h1)
      obtain ⟨A, cap', hv, hc, ho⟩ := h2
      injection hv with e1 e2 e3
      subst e1 e3
      refine ⟨_, _, rfl, by omega, ?_⟩
      rcases ho with ho | ⟨b, off, e, hlt, hcell⟩
      · left; exact (List.append_eq_nil_iff.1 ho).1
      · right
        refine ⟨b, off, e, hlt, fun i x hx j u hu => hcell i x ?_ j u hu⟩
        rw [List.getElem?_append_left (List.getElem?_eq_some_iff.1 hx).1]; exact hx
    · rw [hw]
      have := grownBy_sortedI (w := w) (g := g) (n := n) (os := #[]) (Lib.compact xs ++ List.replicate (xs.length - (Lib.compact xs).length) 0).toArray
      rw [grow_nil] at this
      exact this
end Go.Proofs.YtneelidbgigehaaGreat

/- slices.SortFunc over a slice of structs that the call owns: the slice then owns a sorted permutation. -/
import Derived.Shelf.SlSortCmp.WholeK
import Derived.Shelf.SlSortCmp.NoneTotal
import Derived.Sort.OwnSorted
import Derived.Test.YtneelidbgigehaaGreatBase
namespace Go.Proofs.YtneelidbgigehaaGreat
set_option linter.unusedSimpArgs false
set_option linter.unusedVariables false
open Go.Shelf Go.RowKit Go.Lib Go.Sort Go.Proofs
section
variable {α : Type} [Inhabited α] {enc : α → List Value} {k : Nat}
theorem flatK_list (hk : ∀ x, (enc x).length = k) (hk0 : 0 < k) (xs : List α) : (flatK enc k xs.toArray).toList = xs.flatMap enc := by
  apply List.ext_getElem?
  intro t
  by_cases ht : t < xs.length * k
  · have h1 : t < (flatK enc k xs.toArray).size := by simpa using ht
    have hq : t / k < xs.length := (Nat.div_lt_iff_lt_mul hk0).2 ht
    have hr : t % k < (enc xs[t / k]).length := by rw [hk]; exact Nat.mod_lt _ hk0
    have h2 := flat_get hk xs (t / k) xs[t / k] (List.getElem?_eq_getElem hq) (t % k) _ (List.getElem?_eq_getElem hr)
    have e : t / k * k + t % k = t := by rw [Nat.mul_comm]; exact Nat.div_add_mod t k
    rw [e] at h2
    rw [h2, Array.getElem?_toList]
    have h3 := get_flatK enc k xs.toArray t (by simpa using ht)
    rw [getElem!_pos _ t h1] at h3
    rw [Array.getElem?_eq_getElem h1, h3]
    simp [hq, hr]
  · rw [List.getElem?_eq_none (by simp; omega), List.getElem?_eq_none (by rw [flat_len hk]; omega)]
theorem holdsK_of_block (hk : ∀ x, (enc x).length = k) (hk0 : 0 < k) {w : World} {g : Nat} {cur : Array Value} {e : TypeId} {xs : List α} (hb : w.heap[g]? = some (.cells cur e (0, 0))) (ht : cur.toList.take (xs.length * k) = xs.flatMap enc) :
    HoldsK enc k w g 0 xs.toArray := by
  intro j hj
  have hj' : j < xs.length * k := by simpa using hj
  refine ⟨?_, by simp [World.frozen?, hb]⟩
  have h1 : (cur.toList.take (xs.length * k))[j]? = (flatK enc k xs.toArray).toList[j]? := by rw [ht, flatK_list hk hk0]
  rw [List.getElem?_take_of_lt hj'] at h1
  simp only [World.cell?, hb, Nat.zero_add]
  simp only [Option.isSome_none, Bool.false_eq_true, if_false]
  rw [← Array.getElem?_toList, h1, Array.getElem?_toList, getElem!_pos _ j hj, Array.getElem?_eq_getElem hj]
  rfl
theorem heap_sortedK {w : World} {g n : Nat} {os : Array Obj} {cur : Array Value} {e : TypeId} {fr : Nat × Nat} (F : Array Value) (hb : w.heap[g]? = some (.cells cur e fr)) :
    (grow (putRow id (Sort.ahead w n) g 0 F) os).heap[g]? = some (.cells (putCells id 0 F cur) e fr) := by
  have hg : g < w.heap.size := (Array.getElem?_eq_some_iff.1 hb).1
  rw [heap_grow_old _ _ (by simpa using hg)]
  simp [putRow, mapBlock, Sort.ahead, Array.getElem?_modify, hb, onCells]
theorem grownBy_sortedK {w : World} {g n : Nat} {os : Array Obj} (F : Array Value) : w.grownBy (grow (putRow id (Sort.ahead w n) g 0 F) os) (some g) := by
  refine ⟨rfl, rfl, rfl, by simp, fun k hk hne => ?_⟩
  rw [heap_grow_old _ _ (by simpa using hk)]
  have : g ≠ k := fun e => hne (by rw [e])
  simp [putRow, mapBlock, Sort.ahead, Array.getElem?_modify, this]
theorem take_putCellsK (cur F : Array Value) (h : F.size ≤ cur.size) : (putCells id 0 F cur).toList.take F.size = F.toList := by
  apply List.ext_getElem?
  intro j
  by_cases hj : j < F.size
  · rw [List.getElem?_take_of_lt hj, Array.getElem?_toList]
    simp [putCells, hj, show j < cur.size by omega]
  · rw [List.getElem?_take_eq_none (by omega), List.getElem?_eq_none (by simp; omega)]
theorem ownsRow_sortedK (hk : ∀ x, (enc x).length = k) (hk0 : 0 < k) {w : World} {base g cap n : Nat} {e : TypeId} {os : Array Obj} {cur : Array Value} {xs ys : List α} (hl : ys.length = xs.length) (hbase : base ≤ g) (hb : w.heap[g]? = some (.cells cur e (0, 0)))
    (h1 : xs.length ≤ cap) (h2 : cap ≤ maxLen) (h3 : cur.size = cap * k) :
    (grow (putRow id (Sort.ahead w n) g 0 (flatK enc k ys.toArray)) os).ownsRow base e k (.slice (some ⟨g, 0, none⟩) ys.length cap) ys.length (ys.flatMap enc) := by
  have hm : ys.length * k ≤ cap * k := Nat.mul_le_mul_right k (by omega)
  refine ⟨flat_len hk ys, .inr ⟨g, cap, _, rfl, hbase, heap_sortedK _ hb, by omega, h2, by simp [putCells, h3], ?_⟩⟩
  have := take_putCellsK cur (flatK enc k ys.toArray) (by simp; omega)
  rw [flatK_list hk hk0] at this
  simpa using this
variable {P : Program} {ρ : Ren}
/-- slices.SortFunc at a slice that the call owns -/
theorem sort_own (L : SlLaysF0.n6 P ρ) (aE : ∀ w, (isAgg (ρ.t 24)).run P w = .ok true w) (zE : ∀ w, (Go.sizeOf (ρ.t 24)).run P w = .ok k w) (hk0 : 0 < k) (hk : ∀ x, (enc x).length = k) (h1 : ∀ x, ∀ v ∈ enc x, v.oneCell' = true) (cf : α → α → Int)
    (hO : SWO (ltOf cf)) (g : Nat) (cb : Array Value) (eg : ∀ args w, (callFunc g args).run P w = .ok (.enter g args) w)
    (hcmp : ∀ W x y, Calls P g (#[.agg (enc x).toArray, .agg (enc y).toArray] ++ cb) W fun e w' => e = .returned (.int .i64 (cf x y)) ∧ ∃ q os', w' = grow (W.drewN q) os')
    (base : Nat) (e : TypeId) (w : World) (v : Value) (xs : List α) (hown : w.ownsRow base e k v xs.length (xs.flatMap enc)) (hlen : xs.length < 4611686018427387904) :
    Calls P (ρ.f 6) #[v, .func (.func g) #[] cb] w fun r w' => r = .returned (.tuple #[]) ∧ ∃ ys : List α, ys.Perm xs ∧ ys.Pairwise (fun x y => ltOf cf y x = false) ∧
      w'.ownsRow base e k v ys.length (ys.flatMap enc) ∧ w.grownBy w' v.ownBlock := by
  rcases hown.2 with ⟨rfl, h0⟩ | ⟨b, cap, cur, rfl, hbase, hb, hn, hm, hs, ht⟩
  · have hxs : xs = [] := List.eq_nil_of_length_eq_zero h0
    subst hxs
    exact (AnyF.slices_SortFunc_none L none 0 (.func (.func g) #[] cb) w).mono fun _ _ ⟨he, hw⟩ => ⟨he, [], List.Perm.refl _, List.Pairwise.nil, by rw [hw]; exact hown, by rw [hw]; exact World.grownBy.refl _ _⟩
  · have hbs : b < w.heap.size := (Array.getElem?_eq_some_iff.1 hb).1
    have := AnyQ.slices_SortFunc L k aE zE enc hk h1 cf hO g cb b 0 cap xs.toArray w eg (fun _ _ _ _ x y => hcmp _ x y) (holdsK_of_block hk hk0 hb ht) hbs (by simpa using hlen)
    simp only [List.size_toArray] at this
    refine this.mono fun _ _ ⟨he, d', n, os, hp, hso, hw⟩ => ⟨he, d'.toList, ?_, ?_, ?_, ?_⟩
    · obtain ⟨hz, _, hperm⟩ := hp
      have e1 : (d'.extract 0 xs.length) = d' := by rw [show xs.length = d'.size by simpa using hz.symm]; simp
      have e2 : (xs.toArray.extract 0 xs.length) = xs.toArray := by rw [show xs.length = xs.toArray.size by simp]; exact Array.extract_size
      rw [e1, e2] at hperm
      simpa using hperm
    · have hz : d'.size = xs.length := by simpa using hp.1
      rw [List.pairwise_iff_getElem]
      intro i j hi hj hij
      have := hso i j (Nat.zero_le _) hij (by simp at hj; omega)
      simp only [Array.length_toList] at hi hj
      rw [getElem!_pos _ i (by omega), getElem!_pos _ j (by omega)] at this
      simpa using this
    · have hz : d'.size = xs.length := by simpa using hp.1
      have := ownsRow_sortedK (enc := enc) hk hk0 (ys := d'.toList) (n := n) (os := os) (by simpa using hz) hbase hb hn hm hs
      rw [hw]
      simpa [sortWorldK, putRowK, hz] using this
    · rw [hw]
      exact grownBy_sortedK _
end
end Go.Proofs.YtneelidbgigehaaGreat

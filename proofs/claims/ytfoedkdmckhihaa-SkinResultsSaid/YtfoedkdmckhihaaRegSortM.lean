/- Insertion sort in place, and a sweep over bounds that may repeat; with no program in sight. -/
import Derived.Test.YtfoedkdmckhihaaRegMath2
namespace Go.Proofs.Ytfoedkdmckhihaa
set_option linter.unusedSimpArgs false
set_option linter.unusedVariables false
namespace Reg
open Runs
/-- the bounds of runs -/
def bl (l : List Run) : List Int := l.flatMap fun r => [r.1, r.2]
theorem bl_succ {l : List Run} {k : Nat} {r : Run} (h : l[k]? = some r) : bl (l.take (k + 1)) = bl (l.take k) ++ [r.1, r.2] := by unfold bl; rw [List.take_add_one, h]; simp
theorem bl_len (l : List Run) : (bl l).length = 2 * l.length := by
  induction l with
  | nil => rfl
  | cons r l ih => simp only [bl, List.flatMap_cons, List.length_append, List.length_cons] at *; simp at *; omega
theorem mem_bl {l : List Run} {x : Int} : x ∈ bl l ↔ ∃ r ∈ l, x = r.1 ∨ x = r.2 := by
  simp only [bl, List.mem_flatMap, List.mem_cons, List.not_mem_nil, or_false]
/-- sorted up to i -/
def SortTo (L : List Int) (i : Nat) : Prop := ∀ p q, p < q → q < i → at_ L p ≤ at_ L q
/-- sorted up to i but for the place k -/
def InsI (L : List Int) (i k : Nat) : Prop := ∀ p q, p < q → q ≤ i → q ≠ k → at_ L p ≤ at_ L q
theorem ins_start {L : List Int} {i : Nat} (h : SortTo L i) : InsI L i i := fun p q h1 h2 h3 => h p q h1 (by omega)
def swp (L : List Int) (k : Nat) : List Int := (L.set k (at_ L (k - 1))).set (k - 1) (at_ L k)
theorem at_set {L : List Int} {k j : Nat} {x : Int} (hk : k < L.length) : at_ (L.set k x) j = if j = k then x else at_ L j := by
  unfold at_
  by_cases h : j = k
  · subst h; simp [hk]
  · simp [h, List.getElem?_set_ne (Ne.symm h)]
theorem at_swp {L : List Int} {k j : Nat} (h0 : 0 < k) (hk : k < L.length) : at_ (swp L k) j = if j = k - 1 then at_ L k else if j = k then at_ L (k - 1) else at_ L j := by
  unfold swp
  rw [at_set (by simp; omega), at_set hk]
theorem swp_len (L : List Int) (k : Nat) : (swp L k).length = L.length := by simp [swp]
theorem swp_perm {L : List Int} {k : Nat} (h0 : 0 < k) (hk : k < L.length) : (swp L k).Perm L := by
  unfold swp
  rw [at_get hk, at_get (show k - 1 < L.length by omega)]
  exact List.set_set_perm (by omega) (by omega)
theorem ins_step {L : List Int} {i k : Nat} (h : InsI L i k) (h0 : 0 < k) (hk : k ≤ i) (hi : i < L.length) (hlt : at_ L k < at_ L (k - 1)) : InsI (swp L k) i (k - 1) := by
  intro p q h1 h2 h3
  rw [at_swp h0 (by omega), at_swp h0 (by omega)]
  rw [if_neg (show ¬ q = k - 1 from h3)]
  by_cases hqk : q = k
  · rw [if_pos hqk]
    by_cases hp : p = k - 1
    · rw [if_pos hp]; omega
    · rw [if_neg hp, if_neg (by omega)]
      exact h p (k - 1) (by omega) (by omega) (by omega)
  · rw [if_neg hqk]
    by_cases hp : p = k - 1
    · rw [if_pos hp]
      exact h k q (by omega) h2 hqk
    · rw [if_neg hp]
      by_cases hp2 : p = k
      · rw [if_pos hp2]; exact h (k - 1) q (by omega) h2 hqk
      · rw [if_neg hp2]; exact h p q h1 h2 hqk
theorem ins_done {L : List Int} {i k : Nat} (h : InsI L i k) (hk : k ≤ i) (hd : k = 0 ∨ at_ L (k - 1) ≤ at_ L k) : SortTo L (i + 1) := by
  intro p q h1 h2
  by_cases hq : q = k
  · subst hq
    rcases hd with hd | hd
    · omega
    · by_cases hp : p = q - 1
      · rw [hp]; exact hd
      · have := h p (q - 1) (by omega) (by omega) (by omega)
        omega
  · exact h p q h1 (by omega) hq
theorem sort_done {L : List Int} (h : SortTo L L.length) : L.Pairwise (· ≤ ·) := by
  rw [List.pairwise_iff_getElem]
  intro i j hi hj hij
  have := h i j hij hj
  rwa [at_get hi, at_get hj] at this
/-- one step of the sweep over bounds that may repeat -/
def dStep (P : Int → Bool) (out : List Run) (x y : Int) : List Run := if x = y then out else if P x then put out x y else out
def dTo (P : Int → Bool) (l : List Int) (k : Nat) : List Run := (List.range k).foldl (fun out i => dStep P out (at_ l i) (at_ l (i + 1))) []
theorem dTo_succ (P : Int → Bool) (l : List Int) (k : Nat) : dTo P l (k + 1) = dStep P (dTo P l k) (at_ l k) (at_ l (k + 1)) := by simp [dTo, List.range_succ]
theorem dStep_len (P : Int → Bool) (out : List Run) (x y : Int) : (dStep P out x y).length ≤ out.length + 1 := by
  unfold dStep
  split
  · omega
  · split
    · exact put_len _ _ _
    · omega
theorem dTo_len (P : Int → Bool) (l : List Int) (k : Nat) : (dTo P l k).length ≤ k := by
  induction k with
  | zero => simp [dTo]
  | succ k ih => rw [dTo_succ]; have := dStep_len P (dTo P l k) (at_ l k) (at_ l (k + 1)); omega
/-- without repetitions -/
def dd : List Int → List Int
  | [] => []
  | [x] => [x]
  | x :: y :: l => if x = y then dd (y :: l) else x :: dd (y :: l)
theorem dd_head (x : Int) (l : List Int) : ∃ m, dd (x :: l) = x :: m := by
  induction l generalizing x with
  | nil => exact ⟨[], rfl⟩
  | cons y l ih =>
    unfold dd
    split
    · rename_i h; subst h; exact ih x
    · exact ⟨_, rfl⟩
theorem dd_mem : ∀ (l : List Int) (x : Int), x ∈ dd l ↔ x ∈ l
  | [], x => Iff.rfl
  | [y], x => Iff.rfl
  | y :: z :: l, x => by
    unfold dd
    have ih := dd_mem (z :: l) x
    split
    · rename_i h; subst h; rw [ih]; simp
    · rw [List.mem_cons, ih, List.mem_cons (a := x) (b := y)]
theorem dd_asc : ∀ {l : List Int}, l.Pairwise (· ≤ ·) → Asc (dd l)
  | [], _ => List.Pairwise.nil
  | [y], _ => List.pairwise_singleton _ _
  | y :: z :: l, h => by
    obtain ⟨h1, h2⟩ := List.pairwise_cons.1 h
    have ih := dd_asc h2
    unfold dd
    split
    · exact ih
    · rename_i hne
      refine List.pairwise_cons.2 ⟨fun x hx => ?_, ih⟩
      rw [dd_mem] at hx
      have h3 := h1 z (by simp)
      rcases List.mem_cons.1 hx with rfl | hx
      · omega
      · have := (List.pairwise_cons.1 h2).1 x hx
        omega
def zf (P : Int → Bool) : List Run → List Int → List Run
  | out, x :: y :: l => zf P (dStep P out x y) (y :: l)
  | out, _ => out
theorem zf_dd (P : Int → Bool) : ∀ (l : List Int) (out : List Run), zf P out (dd l) = zf P out l
  | [], out => rfl
  | [x], out => rfl
  | x :: y :: l, out => by
    have ih := zf_dd P (y :: l)
    unfold dd
    split
    · rename_i h
      subst h
      rw [ih]
      conv => rhs; unfold zf
      simp [dStep]
    · rename_i h
      obtain ⟨m, hm⟩ := dd_head y l
      rw [hm]
      conv => lhs; unfold zf
      conv => rhs; unfold zf
      rw [← hm, ih]
theorem at_cons (x : Int) (l : List Int) (i : Nat) : at_ (x :: l) (i + 1) = at_ l i := by simp [at_]
theorem zf_fold (P : Int → Bool) : ∀ (l : List Int) (out : List Run), zf P out l = (List.range (l.length - 1)).foldl (fun out i => dStep P out (at_ l i) (at_ l (i + 1))) out
  | [], out => rfl
  | [x], out => rfl
  | x :: y :: l, out => by
    unfold zf
    rw [zf_fold P (y :: l)]
    have e : (x :: y :: l).length - 1 = ((y :: l).length - 1) + 1 := by simp
    rw [e, List.range_succ_eq_map, List.foldl_cons, List.foldl_map]
    rfl
theorem zf_dTo (P : Int → Bool) (l : List Int) : zf P [] l = dTo P l (l.length - 1) := zf_fold P l []
theorem dTo_asc {P : Int → Bool} {b : List Int} (hb : Asc b) (k : Nat) (hk : k + 1 ≤ b.length) : dTo P b k = swTo P b k := by
  induction k with
  | zero => rfl
  | succ k ih =>
    rw [dTo_succ, swTo_succ, ih (by omega)]
    have := asc_at hb (show k < k + 1 by omega) (show k + 1 < b.length by omega)
    unfold dStep swStep
    rw [if_neg (by omega)]
theorem asc_ext : ∀ {a b : List Int}, Asc a → Asc b → (∀ x, x ∈ a ↔ x ∈ b) → a = b
  | [], [], _, _, _ => rfl
  | [], y :: b, _, _, h => by have := (h y).2 (by simp); simp at this
  | x :: a, [], _, _, h => by have := (h x).1 (by simp); simp at this
  | x :: a, y :: b, ha, hb, h => by
    obtain ⟨h1, h2⟩ := List.pairwise_cons.1 ha
    obtain ⟨h3, h4⟩ := List.pairwise_cons.1 hb
    have e : x = y := by
      rcases List.mem_cons.1 ((h x).1 (by simp)) with h5 | h5
      · exact h5
      · rcases List.mem_cons.1 ((h y).2 (by simp)) with h6 | h6
        · exact h6.symm
        · have := h1 y h6; have := h3 x h5; omega
    subst e
    have : a = b := asc_ext h2 h4 fun z => by
      constructor
      · intro hz
        rcases List.mem_cons.1 ((h z).1 (by simp [hz])) with h5 | h5
        · have := h1 z hz; omega
        · exact h5
      · intro hz
        rcases List.mem_cons.1 ((h z).2 (by simp [hz])) with h5 | h5
        · have := h3 z hz; omega
        · exact h5
    rw [this]
/-- the sweep over the sorted bounds of two lists is the chapter's choice -/
theorem dTo_choose {f : Bool → Bool → Bool} {a b : List Run} {l : List Int} (ha : Sep a) (hb : Sep b) (hp : l.Perm (bl a ++ bl b)) (hs : l.Pairwise (· ≤ ·)) :
    dTo (fun x => f (mem a x) (mem b x)) l (l.length - 1) = Runs.choose f a b := by
  have e : dd l = bnds (a ++ b) := asc_ext (dd_asc hs) (bnds_spec _).1 fun x => by
    rw [dd_mem, hp.mem_iff, (bnds_spec _).2, List.mem_append, mem_bl, mem_bl]
    constructor
    · rintro (⟨r, hr, h⟩ | ⟨r, hr, h⟩)
      · exact ⟨r, List.mem_append_left _ hr, ha.1 r hr, h⟩
      · exact ⟨r, List.mem_append_right _ hr, hb.1 r hr, h⟩
    · rintro ⟨r, hr, _, h⟩
      rcases List.mem_append.1 hr with hr | hr
      · exact .inl ⟨r, hr, h⟩
      · exact .inr ⟨r, hr, h⟩
  rw [← zf_dTo, ← zf_dd, e, zf_dTo]
  unfold Runs.choose sw
  rcases Nat.eq_zero_or_pos (bnds (a ++ b)).length with h0 | h0
  · rw [h0]; rfl
  · exact dTo_asc (bnds_spec _).1 _ (by omega)
end Reg
end Go.Proofs.Ytfoedkdmckhihaa

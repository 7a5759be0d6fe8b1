/- Chapter 19 in plain words: points, edges and steps as the loops meet them. -/
import Derived.Test.YtneelidbgigehaaGreatRasMath
namespace Go.Proofs.YtneelidbgigehaaGreat
set_option linter.unusedSimpArgs false
set_option linter.unusedVariables false
namespace Ras
open Runs Reg
theorem sides_mem {o : List P2} {s : P2 × P2} (h : s ∈ sides o) : s.1 ∈ o ∧ s.2 ∈ o := by
  unfold sides sidesTo at h
  obtain ⟨i, hi, rfl⟩ := List.mem_map.1 h
  rw [List.mem_range] at hi
  have h2 : (i + 1) % o.length < o.length := Nat.mod_lt _ (by omega)
  unfold sideAt
  rw [List.getElem?_eq_getElem hi, List.getElem?_eq_getElem h2]
  exact ⟨List.getElem_mem _, List.getElem_mem _⟩
/-- N cells are as far as all points -/
def Near (l : List (List P2)) (pitch N : Int) : Prop := ∀ o ∈ l, ∀ q ∈ o, -(N * pitch) ≤ q.1 ∧ q.1 ≤ N * pitch ∧ -(N * pitch) ≤ q.2 ∧ q.2 ≤ N * pitch
/-- the number of points of polygons -/
def ptsN (l : List (List P2)) : Nat := (l.map List.length).sum
theorem ptsN_nil : ptsN [] = 0 := rfl
theorem ptsN_cons (o : List P2) (l : List (List P2)) : ptsN (o :: l) = o.length + ptsN l := by simp [ptsN]
theorem ptsN_append (l m : List (List P2)) : ptsN (l ++ m) = ptsN l + ptsN m := by simp [ptsN]
theorem ptsN_succ {l : List (List P2)} {k : Nat} {o : List P2} (h : l[k]? = some o) : ptsN (l.take (k + 1)) = ptsN (l.take k) + o.length := by
  rw [List.take_add_one, h, ptsN_append]; simp [ptsN]
theorem ptsN_take (l : List (List P2)) (k : Nat) : ptsN (l.take k) ≤ ptsN l := by
  have := ptsN_append (l.take k) (l.drop k)
  rw [List.take_append_drop] at this
  omega
theorem ptsN_mem {l : List (List P2)} {o : List P2} (h : o ∈ l) : o.length ≤ ptsN l := by
  induction l with
  | nil => simp at h
  | cons a l ih =>
    rw [ptsN_cons]
    rcases List.mem_cons.1 h with rfl | h
    · omega
    · have := ih h; omega
/-- polygons within the limit of points -/
def FewP (l : List (List P2)) : Prop := l.length ≤ 1048576 ∧ ptsN l ≤ 16384
def okPt (p : P2) : Bool := decide (-65536 ≤ p.1 ∧ p.1 ≤ 65536 ∧ -65536 ≤ p.2 ∧ p.2 ≤ 65536)
theorem okPt_iff {p : P2} : okPt p = true ↔ -65536 ≤ p.1 ∧ p.1 ≤ 65536 ∧ -65536 ≤ p.2 ∧ p.2 ≤ 65536 := by simp [okPt]
def okPs (l : List (List P2)) : Bool := l.all fun o => o.all okPt
def okPitch (pitch : Int) : Bool := decide (32 ≤ pitch ∧ pitch ≤ 1024 ∧ pitch.tmod 2 = 0)
/-- the number of the error of polygons and a pitch -/
def rasE (l : List (List P2)) (pitch : Int) : Int := if okPitch pitch = false then 1 else if okPs l then 0 else 8
theorem rasE_zero {l : List (List P2)} {pitch : Int} : rasE l pitch = 0 ↔ okPitch pitch = true ∧ okPs l = true := by
  unfold rasE
  cases okPitch pitch <;> cases okPs l <;> simp
theorem okPitch_iff {pitch : Int} : okPitch pitch = true ↔ 32 ≤ pitch ∧ pitch ≤ 1024 ∧ pitch % 2 = 0 := by
  unfold okPitch
  rw [decide_eq_true_eq]
  constructor
  · rintro ⟨h1, h2, h3⟩
    rw [Int.tmod_eq_emod_of_nonneg (by omega)] at h3
    exact ⟨h1, h2, h3⟩
  · rintro ⟨h1, h2, h3⟩
    exact ⟨h1, h2, by rw [Int.tmod_eq_emod_of_nonneg (by omega)]; exact h3⟩
theorem okPs_iff {l : List (List P2)} : okPs l = true ↔ ∀ o ∈ l, ∀ q ∈ o, okPt q = true := by simp [okPs, List.all_eq_true]
theorem okPs_at {l : List (List P2)} (h : okPs l = true) {i : Nat} {o : List P2} (ho : l[i]? = some o) {k : Nat} {q : P2} (hq : o[k]? = some q) : -65536 ≤ q.1 ∧ q.1 ≤ 65536 ∧ -65536 ≤ q.2 ∧ q.2 ≤ 65536 :=
  okPt_iff.1 (okPs_iff.1 h o (List.mem_of_getElem? ho) q (List.mem_of_getElem? hq))
theorem okPs_no {l : List (List P2)} {i : Nat} {o : List P2} (ho : l[i]? = some o) {k : Nat} {q : P2} (hq : o[k]? = some q) (h : okPt q = false) : okPs l = false := by
  cases h2 : okPs l
  · rfl
  · rw [okPs_iff.1 h2 o (List.mem_of_getElem? ho) q (List.mem_of_getElem? hq)] at h; cases h
/-- all points seen so far are in range -/
def okTo (l : List (List P2)) (i : Nat) : Prop := ∀ o ∈ l.take i, ∀ q ∈ o, okPt q = true
theorem okTo_zero (l : List (List P2)) : okTo l 0 := by intro o ho; simp at ho
theorem okTo_succ {l : List (List P2)} {i : Nat} {o : List P2} (h : okTo l i) (ho : l[i]? = some o) (hq : ∀ q ∈ o, okPt q = true) : okTo l (i + 1) := by
  intro p hp
  rw [List.take_add_one, ho] at hp
  rcases List.mem_append.1 hp with hp | hp
  · exact h p hp
  · have e : p = o := by simpa using hp
    subst e; exact hq
theorem okTo_all {l : List (List P2)} {i : Nat} (h : okTo l i) (hi : l.length ≤ i) : okPs l = true := by
  unfold okTo at h
  rw [List.take_of_length_le hi] at h
  exact okPs_iff.2 h
theorem ok_take {o : List P2} {k : Nat} {q : P2} (h : ∀ q ∈ o.take k, okPt q = true) (hq : o[k]? = some q) (h2 : okPt q = true) : ∀ q ∈ o.take (k + 1), okPt q = true := by
  intro d hd
  rw [List.take_add_one, hq] at hd
  rcases List.mem_append.1 hd with hd | hd
  · exact h d hd
  · have e : d = q := by simpa using hd
    subst e; exact h2
/-- the edges seen so far: whole polygons up to i, of the next one the sides up to k -/
def edgesTo (l : List (List P2)) (i : Nat) : List Ed := edgesOf ((l.take i).flatMap sides)
theorem edgesTo_zero (l : List (List P2)) : edgesTo l 0 = [] := rfl
theorem edgesTo_succ {l : List (List P2)} {i : Nat} {o : List P2} (h : l[i]? = some o) : edgesTo l (i + 1) = edgesTo l i ++ edgesOf (sides o) := by
  unfold edgesTo
  rw [List.take_add_one, h, List.flatMap_append, edgesOf_append]
  simp
theorem edgesTo_all (l : List (List P2)) : edgesTo l l.length = edgesR l := by unfold edgesTo edgesR; rw [List.take_length]
theorem edgesOf_succ (o : List P2) (k : Nat) {a b : P2} (ha : (o[k]?).getD (0, 0) = a) (hb : (o[(k + 1) % o.length]?).getD (0, 0) = b) : edgesOf (sidesTo o (k + 1)) = edgesOf (sidesTo o k) ++ (edge? a b).toList := by
  subst ha hb
  rw [sidesTo_succ, edgesOf_append]
  exact congrArg _ (edgesOf_one _ _)
theorem edgesOf_len (s : List (P2 × P2)) : (edgesOf s).length ≤ s.length := List.length_filterMap_le _ _
theorem sidesTo_len (o : List P2) (k : Nat) : (sidesTo o k).length = k := by simp [sidesTo]
theorem sides_flat_len (l : List (List P2)) : (l.flatMap sides).length = ptsN l := by
  induction l with
  | nil => rfl
  | cons o l ih => rw [List.flatMap_cons, List.length_append, ih, ptsN_cons]; unfold sides; rw [sidesTo_len]
theorem edgesTo_len (l : List (List P2)) (i : Nat) : (edgesTo l i).length ≤ ptsN l := by
  have h1 := edgesOf_len ((l.take i).flatMap sides)
  have h2 := sides_flat_len (l.take i)
  have h3 := ptsN_take l i
  unfold edgesTo
  omega
/-- an edge's ends are points of the polygons -/
theorem edge_mem {l : List (List P2)} {e : Ed} (h : e ∈ edgesR l) : (∃ o ∈ l, e.1.1 ∈ o) ∧ (∃ o ∈ l, e.1.2 ∈ o) ∧ e.1.1.2 < e.1.2.2 ∧ (e.2 = 1 ∨ e.2 = -1) := by
  unfold edgesR edgesOf at h
  obtain ⟨s, hs, he⟩ := List.mem_filterMap.1 h
  obtain ⟨o, ho, hs⟩ := List.mem_flatMap.1 hs
  obtain ⟨h1, h2⟩ := sides_mem hs
  unfold edge? at he
  split at he
  · rename_i hlt
    cases he
    exact ⟨⟨o, ho, h1⟩, ⟨o, ho, h2⟩, hlt, .inl rfl⟩
  · split at he
    · rename_i hlt
      cases he
      exact ⟨⟨o, ho, h2⟩, ⟨o, ho, h1⟩, hlt, .inr rfl⟩
    · cases he
/-- an edge whose numbers are in range -/
def okEd (e : Ed) : Prop := (-65536 ≤ e.1.1.1 ∧ e.1.1.1 ≤ 65536 ∧ -65536 ≤ e.1.1.2 ∧ e.1.1.2 ≤ 65536) ∧ (-65536 ≤ e.1.2.1 ∧ e.1.2.1 ≤ 65536 ∧ -65536 ≤ e.1.2.2 ∧ e.1.2.2 ≤ 65536) ∧ e.1.1.2 < e.1.2.2 ∧ (e.2 = 1 ∨ e.2 = -1)
theorem okEd_of {l : List (List P2)} (h : okPs l = true) {e : Ed} (he : e ∈ edgesR l) : okEd e := by
  obtain ⟨⟨o, ho, h1⟩, ⟨p, hp, h2⟩, h3, h4⟩ := edge_mem he
  have h5 := okPs_iff.1 h
  exact ⟨okPt_iff.1 (h5 o ho _ h1), okPt_iff.1 (h5 p hp _ h2), h3, h4⟩
/-- the steps of a row, up to the edge k -/
def stepsTo (E : List Ed) (cy pitch : Int) (k : Nat) : List (Int × Int) := stepsR (E.take k) cy pitch
theorem stepsTo_zero (E : List Ed) (cy pitch : Int) : stepsTo E cy pitch 0 = [] := rfl
theorem stepsTo_yes {E : List Ed} {cy pitch : Int} {k : Nat} {e : Ed} (h : E[k]? = some e) (h1 : e.1.1.2 ≤ cy) (h2 : cy < e.1.2.2) : stepsTo E cy pitch (k + 1) = stepsTo E cy pitch k ++ [(befE e cy pitch, e.2)] := by
  unfold stepsTo
  rw [List.take_add_one, h, stepsR_append]
  simp [stepsR, act, h1, h2]
theorem stepsTo_no {E : List Ed} {cy pitch : Int} {k : Nat} {e : Ed} (h : E[k]? = some e) (h2 : e.1.2.2 ≤ cy) : stepsTo E cy pitch (k + 1) = stepsTo E cy pitch k := by
  unfold stepsTo
  rw [List.take_add_one, h, stepsR_append]
  simp [stepsR, act]; omega
theorem stepsTo_all (E : List Ed) (cy pitch : Int) : stepsTo E cy pitch E.length = stepsR E cy pitch := by unfold stepsTo; rw [List.take_length]
theorem stepsR_len (E : List Ed) (cy pitch : Int) : (stepsR E cy pitch).length ≤ E.length := by
  unfold stepsR; rw [List.length_map]; exact List.length_filter_le _ _
theorem stepsTo_len (E : List Ed) (cy pitch : Int) (k : Nat) : (stepsTo E cy pitch k).length ≤ k := by
  have h1 := stepsR_len (E.take k) cy pitch
  have h2 := List.length_take_le k E
  unfold stepsTo; omega
theorem stepsR_none {E : List Ed} {cy pitch : Int} (h : ∀ e ∈ E, act e cy = false) : stepsR E cy pitch = [] := by
  unfold stepsR
  rw [List.map_eq_nil_iff, List.filter_eq_nil_iff]
  intro e he; rw [h e he]; simp
/-- sorted edges: behind one that begins above the row no other one counts -/
theorem stepsTo_break {E : List Ed} {cy pitch : Int} {k : Nat} {e : Ed} (hs : E.Pairwise (fun a b => a.1.1.2 ≤ b.1.1.2)) (h : E[k]? = some e) (h1 : cy < e.1.1.2) : stepsTo E cy pitch k = stepsR E cy pitch := by
  have hk : k < E.length := (List.getElem?_eq_some_iff.1 h).1
  have e1 : E.drop k = e :: E.drop (k + 1) := by
    rw [List.drop_eq_getElem_cons hk]
    have : E[k] = e := by rw [List.getElem?_eq_getElem hk] at h; exact Option.some.inj h
    rw [this]
  have e2 := List.take_append_drop k E
  have h3 : stepsR (E.drop k) cy pitch = [] := by
    refine stepsR_none fun f hf => ?_
    have h4 : e.1.1.2 ≤ f.1.1.2 := by
      rw [e1] at hf
      rcases List.mem_cons.1 hf with rfl | hf
      · exact Int.le_refl _
      · rw [← e2, e1, List.pairwise_append] at hs
        exact (List.pairwise_cons.1 hs.2.1).1 f hf
    unfold act
    rw [decide_eq_false (by omega)]; rfl
  have h5 := stepsR_append (E.take k) (E.drop k) cy pitch
  rw [e2, h3, List.append_nil] at h5
  exact h5.symm
/-- far: N cells are as far as all points seen so far -/
def nearTo (l : List (List P2)) (pitch N : Int) (i : Nat) : Prop := ∀ o ∈ l.take i, ∀ q ∈ o, -(N * pitch) ≤ q.1 ∧ q.1 ≤ N * pitch ∧ -(N * pitch) ≤ q.2 ∧ q.2 ≤ N * pitch
def nearPt (o : List P2) (pitch N : Int) (k : Nat) : Prop := ∀ q ∈ o.take k, -(N * pitch) ≤ q.1 ∧ q.1 ≤ N * pitch ∧ -(N * pitch) ≤ q.2 ∧ q.2 ≤ N * pitch
theorem nearTo_zero (l : List (List P2)) (pitch N : Int) : nearTo l pitch N 0 := by intro o ho; simp at ho
theorem nearPt_zero (o : List P2) (pitch N : Int) : nearPt o pitch N 0 := by intro o ho; simp at ho
theorem nearTo_up {l : List (List P2)} {pitch N : Int} {i : Nat} (hp : 0 ≤ pitch) (h : nearTo l pitch N i) : nearTo l pitch (N + 1) i := by
  intro o ho q hq
  have h1 := h o ho q hq
  rw [Int.add_mul]; omega
theorem nearPt_up {o : List P2} {pitch N : Int} {k : Nat} (hp : 0 ≤ pitch) (h : nearPt o pitch N k) : nearPt o pitch (N + 1) k := by
  intro q hq
  have h1 := h q hq
  rw [Int.add_mul]; omega
theorem nearPt_succ {o : List P2} {pitch N : Int} {k : Nat} {q : P2} (h : nearPt o pitch N k) (hq : o[k]? = some q) (h2 : -(N * pitch) ≤ q.1 ∧ q.1 ≤ N * pitch ∧ -(N * pitch) ≤ q.2 ∧ q.2 ≤ N * pitch) : nearPt o pitch N (k + 1) := by
  intro d hd
  rw [List.take_add_one, hq] at hd
  rcases List.mem_append.1 hd with hd | hd
  · exact h d hd
  · have e : d = q := by simpa using hd
    subst e; exact h2
theorem nearTo_succ {l : List (List P2)} {pitch N : Int} {i k : Nat} {o : List P2} (h : nearTo l pitch N i) (ho : l[i]? = some o) (hk : o.length ≤ k) (h2 : nearPt o pitch N k) : nearTo l pitch N (i + 1) := by
  intro p hp
  rw [List.take_add_one, ho] at hp
  rcases List.mem_append.1 hp with hp | hp
  · exact h p hp
  · have e : p = o := by simpa using hp
    subst e
    unfold nearPt at h2
    rwa [List.take_of_length_le hk] at h2
theorem nearTo_all {l : List (List P2)} {pitch N : Int} {i : Nat} (h : nearTo l pitch N i) (hi : l.length ≤ i) : Near l pitch N := by
  unfold nearTo at h
  rwa [List.take_of_length_le hi] at h
/-- floor, as the program takes it -/
theorem floor_go {a b : Int} (hb : 0 < b) : (if a.tmod b ≠ 0 ∧ a < 0 then a.tdiv b - 1 else a.tdiv b) = a / b := by
  by_cases ha : 0 ≤ a
  · rw [if_neg (by omega), Int.tdiv_eq_ediv_of_nonneg ha]
  · have e : a = -(-a) := by omega
    generalize hc : -a = c at e
    have hc0 : 0 < c := by omega
    subst e
    rw [Int.neg_tmod, Int.neg_tdiv, Int.tdiv_eq_ediv_of_nonneg (by omega), Int.tmod_eq_emod_of_nonneg (by omega)]
    have h1 := Int.mul_ediv_add_emod c b
    have h2 := Int.emod_nonneg c (by omega : b ≠ 0)
    have h3 := Int.emod_lt_of_pos c hb
    split
    · rename_i h4
      symm
      apply Int.le_antisymm
      · have : -c / b < -(c / b) := (Int.ediv_lt_iff_lt_mul hb).2 (by
          rw [Int.neg_mul, Int.mul_comm]; omega)
        omega
      · apply (Int.le_ediv_iff_mul_le hb).2
        rw [Int.sub_mul, Int.neg_mul, Int.mul_comm (c / b)]
        omega
    · rename_i h4
      have h5 : c % b = 0 := by omega
      symm
      apply Int.le_antisymm
      · have : -c / b < -(c / b) + 1 := (Int.ediv_lt_iff_lt_mul hb).2 (by
          rw [Int.add_mul, Int.neg_mul, Int.mul_comm (c / b)]; omega)
        omega
      · apply (Int.le_ediv_iff_mul_le hb).2
        rw [Int.neg_mul, Int.mul_comm (c / b)]
        omega
end Ras
end Go.Proofs.YtneelidbgigehaaGreat

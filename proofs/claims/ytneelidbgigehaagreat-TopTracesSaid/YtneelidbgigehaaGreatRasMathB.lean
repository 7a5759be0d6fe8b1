/- Chapter 19 in plain words: where nothing is inside; the region of polygons. -/
import Derived.Test.YtneelidbgigehaaGreatRasMathA
import Derived.Test.YtneelidbgigehaaGreatOfWalk
namespace Go.Proofs.YtneelidbgigehaaGreat
set_option linter.unusedSimpArgs false
set_option linter.unusedVariables false
namespace Ras
open Runs Reg
def hi (cy : Int) (q : P2) : Int := if cy < q.2 then 1 else 0
theorem closed_to (f : Nat → Int) (n : Nat) : ∀ k, k < n → sumI ((List.range k).map fun i => f ((i + 1) % n) - f i) = f k - f 0
  | 0, _ => by simp [sumI]
  | k + 1, h => by
    rw [List.range_succ, List.map_append, sumI_append, closed_to f n k (by omega)]
    show _ + (f ((k + 1) % n) - f k + 0) = _
    rw [Nat.mod_eq_of_lt h]
    omega
theorem closed_all (f : Nat → Int) (n : Nat) : sumI ((List.range n).map fun i => f ((i + 1) % n) - f i) = 0 := by
  rcases n with _ | n
  · rfl
  · rw [List.range_succ, List.map_append, sumI_append, closed_to f (n + 1) n (by omega)]
    show _ + (f ((n + 1) % (n + 1)) - f n + 0) = _
    rw [Nat.mod_self]
    omega
theorem windS_zero {o : List P2} {p : P2} (h : ∀ s ∈ sides o, addW s.1 s.2 p = hi p.2 s.2 - hi p.2 s.1) : windS (sides o) p = 0 := by
  have e : windS (sides o) p = sumI ((List.range o.length).map fun i => hi p.2 ((o[(i + 1) % o.length]?).getD (0, 0)) - hi p.2 ((o[i]?).getD (0, 0))) := by
    unfold windS
    congr 1
    have : ∀ s ∈ sides o, addW s.1 s.2 p = (fun s : P2 × P2 => hi p.2 s.2 - hi p.2 s.1) s := h
    rw [List.map_congr_left this]
    unfold sides sidesTo
    rw [List.map_map]
    rfl
  rw [e]
  exact closed_all (fun i => hi p.2 ((o[i]?).getD (0, 0))) o.length
theorem crs_is (a b p : P2) : crs a b p = (b.1 - p.1) * (p.2 - a.2) + (a.1 - p.1) * (b.2 - p.2) := by
  unfold crs
  simp only [Int.sub_mul, Int.mul_sub]
  have h1 := Int.mul_comm a.1 b.2
  have h2 := Int.mul_comm b.1 a.2
  have h3 := Int.mul_comm a.1 a.2
  have h4 := Int.mul_comm b.1 b.2
  have h5 := Int.mul_comm p.1 a.2
  have h6 := Int.mul_comm p.1 b.2
  have h7 := Int.mul_comm p.2 a.1
  have h8 := Int.mul_comm p.2 b.1
  omega
theorem crs_left {a b p : P2} (h1 : a.2 ≤ p.2) (h2 : p.2 < b.2) (ha : p.1 < a.1) (hb : p.1 < b.1) : 0 < crs a b p := by
  rw [crs_is]
  have h3 : 0 ≤ (b.1 - p.1) * (p.2 - a.2) := Int.mul_nonneg (by omega) (by omega)
  have h4 : 0 < (a.1 - p.1) * (b.2 - p.2) := Int.mul_pos (by omega) (by omega)
  omega
theorem crs_right {a b p : P2} (h1 : a.2 ≤ p.2) (h2 : p.2 < b.2) (ha : a.1 ≤ p.1) (hb : b.1 ≤ p.1) : crs a b p ≤ 0 := by
  rw [crs_is]
  have h3 : 0 ≤ (p.1 - b.1) * (p.2 - a.2) := Int.mul_nonneg (by omega) (by omega)
  have h4 : 0 ≤ (p.1 - a.1) * (b.2 - p.2) := Int.mul_nonneg (by omega) (by omega)
  have e3 : (b.1 - p.1) * (p.2 - a.2) = -((p.1 - b.1) * (p.2 - a.2)) := by rw [← Int.neg_mul]; congr 1; omega
  have e4 : (a.1 - p.1) * (b.2 - p.2) = -((p.1 - a.1) * (b.2 - p.2)) := by rw [← Int.neg_mul]; congr 1; omega
  omega
theorem addW_left {a b p : P2} (ha : p.1 < a.1) (hb : p.1 < b.1) : addW a b p = hi p.2 b - hi p.2 a := by
  unfold addW hi
  by_cases h1 : a.2 ≤ p.2
  · by_cases h2 : p.2 < b.2
    · rw [if_pos ⟨h1, h2, crs_left h1 h2 ha hb⟩, if_pos h2, if_neg (by omega)]; rfl
    · rw [if_neg (fun h => h2 h.2.1), if_neg (by omega), if_neg h2, if_neg (by omega)]; rfl
  · by_cases h2 : b.2 ≤ p.2
    · have := crs_left (a := b) (b := a) h2 (by omega) hb ha
      rw [crs_swap] at this
      rw [if_neg (by omega), if_pos ⟨h2, by omega, by omega⟩, if_neg (by omega), if_pos (by omega)]; rfl
    · rw [if_neg (by omega), if_neg (by omega), if_pos (by omega), if_pos (by omega)]; rfl
theorem addW_right {a b p : P2} (ha : a.1 ≤ p.1) (hb : b.1 ≤ p.1) : addW a b p = 0 := by
  unfold addW
  rw [if_neg, if_neg]
  · rintro ⟨h1, h2, h3⟩
    have := crs_right (a := b) (b := a) h1 h2 hb ha
    rw [crs_swap] at this
    omega
  · rintro ⟨h1, h2, h3⟩
    have := crs_right h1 h2 ha hb
    omega
theorem addW_high {a b p : P2} (ha : a.2 ≤ p.2) (hb : b.2 ≤ p.2) : addW a b p = 0 := by
  unfold addW; rw [if_neg (by omega), if_neg (by omega)]
theorem addW_low {a b p : P2} (ha : p.2 < a.2) (hb : p.2 < b.2) : addW a b p = 0 := by
  unfold addW; rw [if_neg (by omega), if_neg (by omega)]
theorem windS_of {s : List (P2 × P2)} {p : P2} (h : ∀ q ∈ s, addW q.1 q.2 p = 0) : windS s p = 0 := by
  induction s with
  | nil => rfl
  | cons q s ih =>
    show addW q.1 q.2 p + windS s p = 0
    rw [h q (by simp), ih (fun t ht => h t (by simp [ht]))]; rfl
theorem wind_cons (o : List P2) (l : List (List P2)) (p : P2) : wind (o :: l) p = windS (sides o) p + wind l p := by
  unfold wind; rw [List.flatMap_cons, windS_append]
theorem wind_zero {l : List (List P2)} {p : P2} (h : ∀ o ∈ l, windS (sides o) p = 0) : wind l p = 0 := by
  induction l with
  | nil => rfl
  | cons o l ih => rw [wind_cons, h o (by simp), ih (fun t ht => h t (by simp [ht]))]; rfl
theorem ctr_ge {N n pitch : Int} (hp : 2 ≤ pitch) (h : N ≤ n) : N * pitch ≤ ctr n pitch := by
  have h1 := Int.mul_le_mul_of_nonneg_right h (show 0 ≤ pitch by omega)
  unfold ctr; omega
theorem ctr_lt {N n pitch : Int} (hp : 2 ≤ pitch) (h : n < N) : ctr n pitch < N * pitch := by
  have h1 := Int.mul_le_mul_of_nonneg_right (show n + 1 ≤ N by omega) (show 0 ≤ pitch by omega)
  rw [Int.add_mul] at h1
  unfold ctr; omega
theorem wind_far {l : List (List P2)} {pitch N x y : Int} (hp : 2 ≤ pitch) (h : Near l pitch N) (hw : wind l (ctr x pitch, ctr y pitch) ≠ 0) : -N ≤ x ∧ x < N ∧ -N ≤ y ∧ y < N := by
  have key : ∀ P : Prop, (P → ∀ o ∈ l, windS (sides o) (ctr x pitch, ctr y pitch) = 0) → ¬ P := fun P hP hh => hw (wind_zero (hP hh))
  have e : ∀ n : Int, -n * pitch = -(n * pitch) := fun n => Int.neg_mul n pitch
  refine ⟨Int.not_lt.1 (key _ fun hx o ho => ?_), Int.not_le.1 (key _ fun hx o ho => ?_), Int.not_lt.1 (key _ fun hx o ho => ?_), Int.not_le.1 (key _ fun hx o ho => ?_)⟩
  · have h1 := ctr_lt hp hx
    rw [e] at h1
    refine windS_zero fun s hs => addW_left ?_ ?_
    · have := h o ho s.1 (sides_mem hs).1; show ctr x pitch < _; omega
    · have := h o ho s.2 (sides_mem hs).2; show ctr x pitch < _; omega
  · have h1 := ctr_ge hp hx
    refine windS_of fun s hs => addW_right ?_ ?_
    · have := h o ho s.1 (sides_mem hs).1; show _ ≤ ctr x pitch; omega
    · have := h o ho s.2 (sides_mem hs).2; show _ ≤ ctr x pitch; omega
  · have h1 := ctr_lt hp hx
    rw [e] at h1
    refine windS_of fun s hs => addW_low ?_ ?_
    · have := h o ho s.1 (sides_mem hs).1; show ctr y pitch < _; omega
    · have := h o ho s.2 (sides_mem hs).2; show ctr y pitch < _; omega
  · have h1 := ctr_ge hp hx
    refine windS_of fun s hs => addW_high ?_ ?_
    · have := h o ho s.1 (sides_mem hs).1; show _ ≤ ctr y pitch; omega
    · have := h o ho s.2 (sides_mem hs).2; show _ ≤ ctr y pitch; omega
/-- whether the center of a cell is inside -/
def inP (l : List (List P2)) (pitch x y : Int) : Bool := decide (0 < wind l (ctr x pitch, ctr y pitch))
theorem rowW_any {E : List Ed} {pitch y : Int} {S : List (Int × Int)} (hS : S.Perm (stepsR E (ctr y pitch) pitch)) (hs : S.Pairwise (fun a b => b.1 ≤ a.1)) : SepIn (normal (rawRow S)) ∧ ∀ x, mem (normal (rawRow S)) x = true ↔ (-4096 ≤ x ∧ x < 4096) ∧ 0 < windT (stepsR E (ctr y pitch) pitch) x := by
  have h := rawRow_spec hs
  have hn := normal_spec (rawRow S)
  have hm : ∀ x, mem (normal (rawRow S)) x = true ↔ (-4096 ≤ x ∧ x < 4096) ∧ 0 < windT (stepsR E (ctr y pitch) pitch) x := fun x => by rw [hn.2, h.2.2, windT_perm hS]
  exact ⟨sepIn_of_mem hn.1 (fun x hx => ((hm x).1 hx).1), hm⟩
/-- the row y of the cells inside -/
def rowP (l : List (List P2)) (pitch y : Int) : List Run := normal (((List.range 8192).map fun i : Nat => ((i : Int) - 4096)).filterMap fun x => if inP l pitch x y then some (x, x + 1) else none)
theorem rowP_spec (l : List (List P2)) (pitch y : Int) : SepIn (rowP l pitch y) ∧ ∀ x, mem (rowP l pitch y) x = true ↔ (-4096 ≤ x ∧ x < 4096) ∧ inP l pitch x y = true := by
  have hn := normal_spec (((List.range 8192).map fun i : Nat => ((i : Int) - 4096)).filterMap fun x => if inP l pitch x y then some ((x, x + 1) : Run) else none)
  have hm : ∀ x, mem (rowP l pitch y) x = true ↔ (-4096 ≤ x ∧ x < 4096) ∧ inP l pitch x y = true := fun x => by
    unfold rowP
    rw [hn.2, mem_iff]
    simp only [List.mem_filterMap, List.mem_map, List.mem_range]
    constructor
    · rintro ⟨r, ⟨a, ⟨i, hi, rfl⟩, ha⟩, h1, h2⟩
      split at ha
      · rename_i hin
        cases ha
        simp only at h1 h2
        have : (i : Int) - 4096 = x := by omega
        rw [this] at hin
        exact ⟨by omega, hin⟩
      · cases ha
    · rintro ⟨h1, h2⟩
      refine ⟨(x, x + 1), ⟨x, ⟨(x + 4096).toNat, by omega, by omega⟩, by rw [if_pos h2]⟩, ?_, ?_⟩
      · exact Int.le_refl _
      · show x < x + 1; omega
  exact ⟨sepIn_of_mem hn.1 (fun x hx => ((hm x).1 hx).1), hm⟩
theorem row_is {l : List (List P2)} {E : List Ed} {pitch y : Int} {S : List (Int × Int)} (hp : 2 ≤ pitch) (hE : E.Perm (edgesR l)) (hS : S.Perm (stepsR E (ctr y pitch) pitch)) (hs : S.Pairwise (fun a b => b.1 ≤ a.1)) : normal (rawRow S) = rowP l pitch y := by
  have h1 := rowW_any hS hs
  have h2 := rowP_spec l pitch y
  refine sep_ext h1.1.1 h2.1.1 fun x => ?_
  rw [Bool.eq_iff_iff, h1.2, h2.2, windT_perm (stepsR_perm hE _ _), show edgesR l = edgesOf (l.flatMap sides) from rfl, steps_wind _ (by omega)]
  unfold inP wind
  simp
/-- the region of the cells inside -/
def rasR (l : List (List P2)) (pitch : Int) : List Reg.Row := rowsOn (rowP l pitch) ((List.range 8192).map fun i : Nat => ((i : Int) - 4096))
theorem ys_all {y : Int} : y ∈ ((List.range 8192).map fun i : Nat => ((i : Int) - 4096)) ↔ -4096 ≤ y ∧ y < 4096 := by
  rw [List.mem_map]
  constructor
  · rintro ⟨i, hi, rfl⟩
    rw [List.mem_range] at hi
    omega
  · rintro ⟨h1, h2⟩
    exact ⟨(y + 4096).toNat, by rw [List.mem_range]; omega, by omega⟩
theorem ys_asc : Asc ((List.range 8192).map fun i : Nat => ((i : Int) - 4096)) := by
  unfold Asc
  rw [List.pairwise_map]
  exact List.Pairwise.imp (fun {a b} h => by omega) List.pairwise_lt_range
theorem rasR_spec (l : List (List P2)) (pitch : Int) : VReg (rasR l pitch) ∧ ∀ x y, memC (rasR l pitch) x y = true ↔ (-4096 ≤ x ∧ x < 4096) ∧ (-4096 ≤ y ∧ y < 4096) ∧ inP l pitch x y = true := by
  constructor
  · exact rowsOn_vreg ys_asc (fun y hy => by unfold okC; rw [decide_eq_true_eq]; exact ys_all.1 hy) (fun y _ => (rowP_spec l pitch y).1)
  · intro x y
    unfold rasR
    rw [rowsOn_memC, Bool.and_eq_true, decide_eq_true_eq, ys_all, (rowP_spec l pitch y).2]
    constructor
    · rintro ⟨h1, h2, h3⟩; exact ⟨h2, h1, h3⟩
    · rintro ⟨h1, h2, h3⟩; exact ⟨h2, h1, h3⟩
theorem rasR_part {l : List (List P2)} {pitch : Int} {ys : List Int} (ha : Asc ys) (hok : ∀ y ∈ ys, -4096 ≤ y ∧ y < 4096) (h : ∀ x y, -4096 ≤ y → y < 4096 → inP l pitch x y = true → y ∈ ys) : rowsOn (rowP l pitch) ys = rasR l pitch := by
  refine vreg_ext (rowsOn_vreg ha (fun y hy => by unfold okC; rw [decide_eq_true_eq]; exact hok y hy) (fun y _ => (rowP_spec l pitch y).1)) (rasR_spec l pitch).1 fun x y => ?_
  rw [Bool.eq_iff_iff, (rasR_spec l pitch).2, rowsOn_memC, Bool.and_eq_true, decide_eq_true_eq, (rowP_spec l pitch y).2]
  constructor
  · rintro ⟨h1, h2, h3⟩; exact ⟨h2, hok y h1, h3⟩
  · rintro ⟨h1, h2, h3⟩; exact ⟨h x y h2.1 h2.2 h3, h1, h3⟩
end Ras
end Go.Proofs.YtneelidbgigehaaGreat

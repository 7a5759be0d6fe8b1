/- Rectangles along the cells: what is inside. -/
import Derived.Test.YtbdmibbpojmkiaaRasMathC
import Derived.Test.YtbdmibbpojmkiaaRasWalk
namespace Go.Proofs.Ytbdmibbpojmkiaa
set_option linter.unusedSimpArgs false
set_option linter.unusedVariables false
namespace Ras
open Runs Reg
theorem sides4 (a b c d : P2) : sides [a, b, c, d] = [(a, b), (b, c), (c, d), (d, a)] := by simp [sides, sidesTo, sideAt, List.range_succ]
theorem wind1 (o : List P2) (p : P2) : wind [o] p = windS (sides o) p := by unfold wind; simp
theorem windS4 (a b c d p : P2) : wind [[a, b, c, d]] p = addW a b p + (addW b c p + (addW c d p + (addW d a p + 0))) := by rw [wind1, sides4]; rfl
theorem addW_flat {a b p : P2} (h : a.2 = b.2) : addW a b p = 0 := by unfold addW; rw [if_neg (by omega), if_neg (by omega)]
theorem addW_up {x y1 y2 : Int} {p : P2} (h : y1 < y2) : addW (x, y1) (x, y2) p = if y1 ≤ p.2 ∧ p.2 < y2 ∧ p.1 < x then 1 else 0 := by
  have e : crs (x, y1) (x, y2) p = (y2 - y1) * (x - p.1) := by
    unfold crs
    simp only [Int.sub_self, Int.zero_mul, Int.zero_sub]
    rw [← Int.mul_neg, show -(p.1 - x) = x - p.1 by omega]
  have h1 : 0 < crs (x, y1) (x, y2) p ↔ p.1 < x := by
    rw [e]
    constructor
    · intro h2
      apply Classical.byContradiction
      intro h3
      have := Int.mul_nonneg (show 0 ≤ y2 - y1 by omega) (show 0 ≤ p.1 - x by omega)
      have e2 : (y2 - y1) * (x - p.1) = -((y2 - y1) * (p.1 - x)) := by rw [← Int.mul_neg]; congr 1; omega
      omega
    · intro h2
      exact Int.mul_pos (by omega) (by omega)
  unfold addW
  simp only [h1]
  by_cases c : y1 ≤ p.2 ∧ p.2 < y2 ∧ p.1 < x
  · rw [if_pos c, if_pos c]
  · rw [if_neg c, if_neg c, if_neg (by omega)]
theorem addW_down {x y1 y2 : Int} {p : P2} (h : y1 < y2) : addW (x, y2) (x, y1) p = if y1 ≤ p.2 ∧ p.2 < y2 ∧ p.1 < x then -1 else 0 := by
  have e := crs_swap (x, y1) (x, y2) p
  have h0 := addW_up (x := x) (p := p) h
  have e1 : crs (x, y1) (x, y2) p = (y2 - y1) * (x - p.1) := by
    unfold crs
    simp only [Int.sub_self, Int.zero_mul, Int.zero_sub]
    rw [← Int.mul_neg, show -(p.1 - x) = x - p.1 by omega]
  have h1 : crs (x, y2) (x, y1) p < 0 ↔ p.1 < x := by
    rw [e, e1]
    constructor
    · intro h2
      apply Classical.byContradiction
      intro h3
      have := Int.mul_nonneg (show 0 ≤ y2 - y1 by omega) (show 0 ≤ p.1 - x by omega)
      have e2 : (y2 - y1) * (x - p.1) = -((y2 - y1) * (p.1 - x)) := by rw [← Int.mul_neg]; congr 1; omega
      omega
    · intro h2
      have := Int.mul_pos (show 0 < y2 - y1 by omega) (show 0 < x - p.1 by omega)
      omega
  unfold addW
  simp only [h1]
  rw [if_neg (by omega)]
theorem wind_ccw {ax ay bx by' : Int} {p : P2} (h1 : ax < bx) (h2 : ay < by') : wind [[(ax, ay), (bx, ay), (bx, by'), (ax, by')]] p = if (ax ≤ p.1 ∧ p.1 < bx) ∧ ay ≤ p.2 ∧ p.2 < by' then 1 else 0 := by
  rw [windS4, addW_flat (by rfl), addW_up h2, addW_flat (by rfl), addW_down h2]
  by_cases c1 : ay ≤ p.2 ∧ p.2 < by'
  · by_cases c2 : p.1 < ax
    · rw [if_pos (by omega), if_pos (by omega), if_neg (by omega)]; rfl
    · by_cases c3 : p.1 < bx
      · rw [if_pos (by omega), if_neg (by omega), if_pos (by omega)]; rfl
      · rw [if_neg (by omega), if_neg (by omega), if_neg (by omega)]; rfl
  · rw [if_neg (by omega), if_neg (by omega), if_neg (by omega)]; rfl
theorem wind_cw {ax ay bx by' : Int} {p : P2} (h1 : ax < bx) (h2 : ay < by') : wind [[(ax, ay), (ax, by'), (bx, by'), (bx, ay)]] p ≤ 0 := by
  rw [windS4, addW_up h2, addW_flat (by rfl), addW_down h2, addW_flat (by rfl)]
  by_cases c1 : ay ≤ p.2 ∧ p.2 < by' ∧ p.1 < ax
  · rw [if_pos c1, if_pos (by omega)]; decide
  · rw [if_neg c1]
    split <;> omega
theorem ctr_lo {X x pitch : Int} (hp : 2 ≤ pitch) : X * pitch ≤ ctr x pitch ↔ X ≤ x := by
  constructor
  · intro h
    apply Classical.byContradiction
    intro h2
    have := ctr_lt hp (show x < X by omega)
    omega
  · exact ctr_ge hp
theorem ctr_hi {X x pitch : Int} (hp : 2 ≤ pitch) : ctr x pitch < X * pitch ↔ x < X := by
  have := ctr_lo (X := X) (x := x) hp
  omega
/-- the corners of a rectangle of cells, counterclockwise and clockwise -/
def ccwP (X Y W H p : Int) : List (List P2) := [[(X * p, Y * p), ((X + W) * p, Y * p), ((X + W) * p, (Y + H) * p), (X * p, (Y + H) * p)]]
def cwP (X Y W H p : Int) : List (List P2) := [[(X * p, Y * p), (X * p, (Y + H) * p), ((X + W) * p, (Y + H) * p), ((X + W) * p, Y * p)]]
theorem in_ccw {X Y W H p x y : Int} (hp : 2 ≤ p) (hW : 0 < W) (hH : 0 < H) : inP (ccwP X Y W H p) p x y = true ↔ (X ≤ x ∧ x < X + W) ∧ Y ≤ y ∧ y < Y + H := by
  have m1 : X * p < (X + W) * p := by rw [Int.add_mul]; have := Int.mul_pos hW (show 0 < p by omega); omega
  have m2 : Y * p < (Y + H) * p := by rw [Int.add_mul]; have := Int.mul_pos hH (show 0 < p by omega); omega
  unfold inP ccwP
  rw [wind_ccw m1 m2, decide_eq_true_eq]
  simp only [ctr_lo hp, ctr_hi hp]
  split <;> rename_i h
  · simp only [h, and_self, iff_true]; decide
  · simp only [h, iff_false]; decide
theorem in_cw {X Y W H p x y : Int} (hp : 2 ≤ p) (hW : 0 < W) (hH : 0 < H) : inP (cwP X Y W H p) p x y = false := by
  have m1 : X * p < (X + W) * p := by rw [Int.add_mul]; have := Int.mul_pos hW (show 0 < p by omega); omega
  have m2 : Y * p < (Y + H) * p := by rw [Int.add_mul]; have := Int.mul_pos hH (show 0 < p by omega); omega
  unfold inP cwP
  rw [decide_eq_false_iff_not]
  have := wind_cw (p := (ctr x p, ctr y p)) m1 m2
  omega
/-- the cells of a rectangle -/
def boxRows (X Y W : Int) (n : Nat) : List Reg.Row := (upFrom Y n).map fun y => (y, [(X, X + W)])
theorem boxRows_len (X Y W : Int) (n : Nat) : (boxRows X Y W n).length = n := by unfold boxRows; rw [List.length_map, upFrom_len]
theorem boxRows_at {X Y W : Int} {n i : Nat} (h : i < n) : (boxRows X Y W n)[i]? = some (Y + i, [(X, X + W)]) := by
  unfold boxRows upFrom
  simp [h]
theorem ras_ccw {X Y W p : Int} {n : Nat} (hp : 2 ≤ p) (hW : 0 < W) (hn : 0 < n) (hX : -4096 ≤ X ∧ X + W ≤ 4096) (hY : -4096 ≤ Y ∧ Y + n ≤ 4096) : rasR (ccwP X Y W n p) p = boxRows X Y W n := by
  refine vreg_ext (rasR_spec _ _).1 ?_ fun x y => ?_
  · refine ⟨fun w hw => ?_, ?_⟩
    · unfold boxRows at hw
      obtain ⟨y, hy, rfl⟩ := List.mem_map.1 hw
      rw [mem_upFrom] at hy
      refine ⟨by unfold okC; rw [decide_eq_true_eq]; simp only; omega, fine_iff.2 ⟨⟨by simp; omega, by simp⟩, by simp; omega, by simp⟩⟩
    · unfold boxRows
      rw [List.pairwise_map]
      exact upFrom_asc Y n
  · rw [Bool.eq_iff_iff, (rasR_spec _ _).2, in_ccw hp hW (by omega), memC_iff]
    constructor
    · rintro ⟨h1, h2, h3, h4⟩
      exact ⟨(y, [(X, X + W)]), List.mem_map.2 ⟨y, mem_upFrom.2 h4, rfl⟩, rfl, by rw [mem_iff]; exact ⟨_, List.mem_singleton.2 rfl, h3⟩⟩
    · rintro ⟨w, hw, rfl, h4⟩
      unfold boxRows at hw
      obtain ⟨y, hy, rfl⟩ := List.mem_map.1 hw
      rw [mem_upFrom] at hy
      rw [mem_iff] at h4
      obtain ⟨r, hr, h5⟩ := h4
      rw [List.mem_singleton] at hr
      subst hr
      simp only at h5 ⊢
      omega
theorem ras_cw {X Y W H p : Int} (hp : 2 ≤ p) (hW : 0 < W) (hH : 0 < H) : rasR (cwP X Y W H p) p = [] := by
  refine vreg_ext (rasR_spec _ _).1 vreg_nil fun x y => ?_
  rw [memC_nil, ← Bool.not_eq_true, (rasR_spec _ _).2, in_cw hp hW hH]
  simp
end Ras
end Go.Proofs.Ytbdmibbpojmkiaa

/- Plain facts on points and segments: the program's count of the common points of two segments is that of the reference, for all points. -/
namespace Go.Proofs.Yteadnlodccnfcaa.Planar
set_option linter.unusedSimpArgs false
set_option linter.unusedVariables false
abbrev Pt := Int × Int
def vld (p : Pt) : Bool := decide (-16777216 ≤ p.1 ∧ p.1 ≤ 16777216 ∧ -16777216 ≤ p.2 ∧ p.2 ≤ 16777216)
def crs (a b c : Pt) : Int := (b.1 - a.1) * (c.2 - a.2) - (b.2 - a.2) * (c.1 - a.1)
def cross (a b c : Pt) : Int := if vld a && vld b && vld c then crs a b c else 0
def sgn (n : Int) : Int := if 0 < n then 1 else if n < 0 then -1 else 0
def turn (a b c : Pt) : Int := sgn (cross a b c)
def dist2 (a b : Pt) : Int := if vld a && vld b then (b.1 - a.1) * (b.1 - a.1) + (b.2 - a.2) * (b.2 - a.2) else 0
def btw (n a b : Int) : Bool := (decide (a ≤ n) && decide (n ≤ b)) || (decide (b ≤ n) && decide (n ≤ a))
/-- the reference's On -/
def on (p a b : Pt) : Bool := vld p && vld a && vld b && decide (crs a b p = 0) && btw p.1 a.1 b.1 && btw p.2 a.2 b.2
def add1 (a b c d : Pt) (out : List Pt) (p : Pt) : List Pt := if !(out.contains p) && on p a b && on p c d then out ++ [p] else out
def ends (a b c d : Pt) : List Pt := [a, b, c, d].foldl (add1 a b c d) []
def meetR (a b c d : Pt) : Int :=
  if !(vld a && vld b && vld c && vld d) then 0
  else if 0 < (ends a b c d).length then (ends a b c d).length
  else if turn a b c * turn a b d < 0 ∧ turn c d a * turn c d b < 0 then 1 else 0
def common (a b c d : Int) : Int :=
  if min (max a b) (max c d) < max (min a b) (min c d) then 0 else if max (min a b) (min c d) = min (max a b) (max c d) then 1 else 2
/-- the program's 'has' -/
def has (a b p : Pt) : Bool := decide (turn a b p = 0) && decide (min a.1 b.1 ≤ p.1) && decide (p.1 ≤ max a.1 b.1) && decide (min a.2 b.2 ≤ p.2) && decide (p.2 ≤ max a.2 b.2)
def meetP (a b c d : Pt) : Int :=
  if !(vld a && vld b && vld c && vld d) then 0
  else if a = b then (if has c d a then 1 else 0)
  else if c = d then (if has a b c then 1 else 0)
  else if turn a b c = 0 ∧ turn a b d = 0 then (if a.1 ≠ b.1 then common a.1 b.1 c.1 d.1 else common a.2 b.2 c.2 d.2)
  else if has a b c || has a b d || has c d a || has c d b then 1
  else if turn a b c * turn a b d < 0 ∧ turn c d a * turn c d b < 0 then 1 else 0

theorem turn_zero {a b c : Pt} (ha : vld a = true) (hb : vld b = true) (hc : vld c = true) : turn a b c = 0 ↔ crs a b c = 0 := by
  unfold turn cross sgn; simp only [ha, hb, hc, Bool.and_self, if_true]; split <;> (try split) <;> omega
theorem has_on {a b p : Pt} (ha : vld a = true) (hb : vld b = true) (hp : vld p = true) : has a b p = on p a b := by
  rw [Bool.eq_iff_iff]
  simp only [has, on, btw, ha, hb, hp, Bool.and_eq_true, Bool.or_eq_true, decide_eq_true_eq, turn_zero ha hb hp, true_and]
  omega
theorem on_symm (p a b : Pt) : on p a b = on p b a := by
  rw [Bool.eq_iff_iff]
  simp only [on, btw, crs, Bool.and_eq_true, Bool.or_eq_true, decide_eq_true_eq]
  grind
theorem on_left {a b : Pt} (ha : vld a = true) (hb : vld b = true) : on a a b = true := by
  simp only [on, btw, crs, ha, hb, Bool.and_eq_true, Bool.or_eq_true, decide_eq_true_eq]
  grind
theorem on_right {a b : Pt} (ha : vld a = true) (hb : vld b = true) : on b a b = true := by rw [on_symm]; exact on_left hb ha
theorem on_self {p a : Pt} (h : on p a a = true) : p = a := by
  simp only [on, btw, Bool.and_eq_true, Bool.or_eq_true, decide_eq_true_eq] at h
  apply Prod.ext <;> omega
theorem mem_add1 (a b c d : Pt) (out : List Pt) (p q : Pt) : q ∈ add1 a b c d out p ↔ q ∈ out ∨ (q = p ∧ on p a b = true ∧ on p c d = true) := by
  unfold add1; split
  · rename_i h; simp at h; simp; grind
  · rename_i h; simp at h; grind
theorem nodup_add1 (a b c d : Pt) (out : List Pt) (p : Pt) (h : out.Nodup) : (add1 a b c d out p).Nodup := by
  unfold add1; split
  · rename_i h'; simp at h'; rw [List.nodup_append]; grind
  · exact h
theorem mem_ends (a b c d q : Pt) : q ∈ ends a b c d ↔ (q = a ∨ q = b ∨ q = c ∨ q = d) ∧ on q a b = true ∧ on q c d = true := by
  simp only [ends, List.foldl, mem_add1]; grind
theorem nodup_ends (a b c d : Pt) : (ends a b c d).Nodup := by
  simp only [ends, List.foldl]; repeat (apply nodup_add1)
  exact List.nodup_nil
theorem nodup_len_le {l m : List Pt} (h : l.Nodup) (hs : ∀ x ∈ l, x ∈ m) : l.length ≤ m.length := by
  induction l generalizing m with
  | nil => simp
  | cons x l ih =>
    have hx := hs x (by simp)
    have hn := List.nodup_cons.1 h
    have : l.length ≤ (m.erase x).length := ih hn.2 fun y hy => by
      have hy' := hs y (by simp [hy])
      have hne : y ≠ x := fun e => hn.1 (e ▸ hy)
      exact (List.mem_erase_of_ne hne).2 hy'
    rw [List.length_erase_of_mem hx] at this
    have := List.length_pos_of_mem hx
    simp; omega
theorem ends_len {a b c d a' b' c' d' : Pt} (h : ∀ q, q ∈ ends a b c d ↔ q ∈ ends a' b' c' d') : (ends a b c d).length = (ends a' b' c' d').length :=
  Nat.le_antisymm (nodup_len_le (nodup_ends ..) fun x hx => (h x).1 hx) (nodup_len_le (nodup_ends ..) fun x hx => (h x).2 hx)
theorem ends_one {a b c d p : Pt} (hp : p ∈ ends a b c d) (hu : ∀ q ∈ ends a b c d, q = p) : (ends a b c d).length = 1 := by
  apply Nat.le_antisymm
  · exact nodup_len_le (m := [p]) (nodup_ends ..) fun x hx => by simp [hu x hx]
  · exact List.length_pos_of_mem hp
theorem ends_zero {a b c d : Pt} (hu : ∀ q, q ∉ ends a b c d) : (ends a b c d).length = 0 := by
  rw [List.length_eq_zero_iff]; exact List.eq_nil_iff_forall_not_mem.2 hu
theorem ends_two {a b c d p q : Pt} (hp : p ∈ ends a b c d) (hq : q ∈ ends a b c d) (hne : p ≠ q) (hu : ∀ x ∈ ends a b c d, x = p ∨ x = q) : (ends a b c d).length = 2 := by
  apply Nat.le_antisymm
  · exact nodup_len_le (m := [p, q]) (nodup_ends ..) fun x hx => by simpa using hu x hx
  · exact nodup_len_le (l := [p, q]) (by simp [hne]) fun x hx => by simp at hx; rcases hx with rfl | rfl <;> assumption
/-- parallel is transitive through a vector that is not null -/
theorem par_trans {ax ay bx by_ cx cy : Int} (hab : ax * by_ - ay * bx = 0) (hb : bx ≠ 0 ∨ by_ ≠ 0) (hbc : bx * cy - by_ * cx = 0) : ax * cy - ay * cx = 0 := by
  rcases hb with hb | hb
  · have : bx * (ax * cy - ay * cx) = 0 := by
      have : bx * (ax * cy - ay * cx) = ax * (bx * cy - by_ * cx) + cx * (ax * by_ - ay * bx) := by grind
      rw [this, hab, hbc]; simp
    exact (Int.mul_eq_zero.1 this).resolve_left hb
  · have : by_ * (ax * cy - ay * cx) = 0 := by
      have : by_ * (ax * cy - ay * cx) = ay * (bx * cy - by_ * cx) + cy * (ax * by_ - ay * bx) := by grind
      rw [this, hab, hbc]; simp
    exact (Int.mul_eq_zero.1 this).resolve_left hb
/-- two different points on two lines: the lines are one -/
theorem two_common {a b c d p q : Pt} (hab : a ≠ b) (hcd : c ≠ d) (hpq : p ≠ q) (h1 : crs a b p = 0) (h2 : crs a b q = 0) (h3 : crs c d p = 0) (h4 : crs c d q = 0) : crs a b c = 0 ∧ crs a b d = 0 := by
  obtain ⟨ax, ay⟩ := a; obtain ⟨bx, by_⟩ := b; obtain ⟨cx, cy⟩ := c; obtain ⟨dx, dy⟩ := d; obtain ⟨px, py⟩ := p; obtain ⟨qx, qy⟩ := q
  simp only [crs, ne_eq, Prod.mk.injEq] at *
  have u : (bx - ax) * (qy - py) - (by_ - ay) * (qx - px) = 0 := by grind
  have v : (dx - cx) * (qy - py) - (dy - cy) * (qx - px) = 0 := by grind
  have d0 : qx - px ≠ 0 ∨ qy - py ≠ 0 := by omega
  have v0 : dx - cx ≠ 0 ∨ dy - cy ≠ 0 := by omega
  have v' : (qx - px) * (dy - cy) - (qy - py) * (dx - cx) = 0 := by grind
  have e1 := par_trans v' v0 h3
  have e2 := par_trans u d0 e1
  have e3 : (qx - px) * (py - dy) - (qy - py) * (px - dx) = 0 := by
    have := par_trans v' v0 (cx := px - dx) (cy := py - dy) (by grind)
    exact this
  have e4 := par_trans u d0 e3
  constructor <;> grind
/-- on a line that is not upright a point is given by its abscissa, and lies between the ends as that does -/
theorem line_x {a b p : Pt} (hx : a.1 ≠ b.1) (h : crs a b p = 0) (hb : btw p.1 a.1 b.1 = true) : btw p.2 a.2 b.2 = true := by
  obtain ⟨ax, ay⟩ := a; obtain ⟨bx, by_⟩ := b; obtain ⟨px, py⟩ := p
  simp only [crs, btw, Bool.and_eq_true, Bool.or_eq_true, decide_eq_true_eq] at *
  -- (bx-ax)*(py-ay) = (by-ay)*(px-ax)
  have key : ∀ (dx dy tx ty : Int), 0 < dx → 0 ≤ tx → tx ≤ dx → dx * ty = dy * tx → (0 ≤ ty ∧ ty ≤ dy) ∨ (dy ≤ ty ∧ ty ≤ 0) := by
    intro dx dy tx ty h0 h1 h2 h3
    have hdx : dx * (dy - ty) = dy * (dx - tx) := by grind
    rcases Int.le_total 0 dy with hd | hd
    · left
      constructor
      · have : 0 ≤ dx * ty := h3 ▸ Int.mul_nonneg hd h1
        exact Int.nonneg_of_mul_nonneg_right this h0
      · have : 0 ≤ dx * (dy - ty) := hdx ▸ Int.mul_nonneg hd (by omega)
        have := Int.nonneg_of_mul_nonneg_right this h0
        omega
    · right
      constructor
      · have : 0 ≤ dx * (ty - dy) := by
          have : dx * (ty - dy) = (-dy) * (dx - tx) := by grind
          rw [this]; exact Int.mul_nonneg (by omega) (by omega)
        have := Int.nonneg_of_mul_nonneg_right this h0
        omega
      · have : 0 ≤ dx * (-ty) := by
          have : dx * (-ty) = (-dy) * tx := by grind
          rw [this]; exact Int.mul_nonneg (by omega) h1
        have := Int.nonneg_of_mul_nonneg_right this h0
        omega
  rcases Int.lt_or_gt_of_ne hx with hl | hl
  · have := key (bx - ax) (by_ - ay) (px - ax) (py - ay) (by omega) (by omega) (by omega) (by grind)
    omega
  · have := key (ax - bx) (ay - by_) (px - bx) (py - by_) (by omega) (by omega) (by omega) (by grind)
    omega
theorem line_inj {a b p q : Pt} (hx : a.1 ≠ b.1) (h1 : crs a b p = 0) (h2 : crs a b q = 0) (he : p.1 = q.1) : p = q := by
  obtain ⟨ax, ay⟩ := a; obtain ⟨bx, by_⟩ := b; obtain ⟨px, py⟩ := p; obtain ⟨qx, qy⟩ := q
  simp only [crs] at *
  subst he
  have : (bx - ax) * (py - qy) = 0 := by grind
  have := (Int.mul_eq_zero.1 this).resolve_left (by omega)
  apply Prod.ext <;> simp; omega
/-- swapped axes -/
def sw (p : Pt) : Pt := (p.2, p.1)
theorem crs_sw (a b c : Pt) : crs (sw a) (sw b) (sw c) = - crs a b c := by simp only [crs, sw]; grind
theorem vld_sw (p : Pt) : vld (sw p) = vld p := by
  obtain ⟨x, y⟩ := p
  unfold vld sw
  rw [decide_eq_decide]
  constructor <;> (rintro ⟨h1, h2, h3, h4⟩; exact ⟨h3, h4, h1, h2⟩)
theorem on_sw (p a b : Pt) : on (sw p) (sw a) (sw b) = on p a b := by
  unfold on
  rw [vld_sw, vld_sw, vld_sw, crs_sw, Bool.and_assoc, Bool.and_comm (btw _ _ _), ← Bool.and_assoc]
  simp only [sw, Int.neg_eq_zero]
theorem sw_inj {p q : Pt} : sw p = sw q ↔ p = q := by
  simp only [sw, Prod.ext_iff]; omega
/-- collinear segments on a line that is not upright: the number of ends is that of the ranges -/
theorem col_x {a b c d : Pt} (ha : vld a = true) (hb : vld b = true) (hc : vld c = true) (hd : vld d = true) (hx : a.1 ≠ b.1) (hcd : c ≠ d)
    (h1 : crs a b c = 0) (h2 : crs a b d = 0) : ((ends a b c d).length : Int) = common a.1 b.1 c.1 d.1 := by
  have hcx : c.1 ≠ d.1 := fun e => hcd (line_inj hx h1 h2 e)
  have hab : a ≠ b := fun e => hx (by rw [e])
  -- any point on the line of s lies on the line of t
  have hl : ∀ p, crs a b p = 0 → crs c d p = 0 := by
    intro p hp
    have e0 : crs a b a = 0 := by simp only [crs]; grind
    have e1 : crs a b b = 0 := by simp only [crs]; grind
    have e2 : crs c d c = 0 := by simp only [crs]; grind
    have e3 : crs c d d = 0 := by simp only [crs]; grind
    obtain ⟨ax, ay⟩ := a; obtain ⟨bx, by_⟩ := b; obtain ⟨cx, cy⟩ := c; obtain ⟨dx, dy⟩ := d; obtain ⟨px, py⟩ := p
    simp only [crs] at *
    have u : (dx - cx) * (by_ - ay) - (dy - cy) * (bx - ax) = 0 := by grind
    have w : (bx - ax) * (py - cy) - (by_ - ay) * (px - cx) = 0 := by grind
    exact par_trans u (by omega) w
  have hon : ∀ p, vld p = true → crs a b p = 0 → ((on p a b = true ∧ on p c d = true) ↔ (btw p.1 a.1 b.1 = true ∧ btw p.1 c.1 d.1 = true)) := by
    intro p hv hp
    simp only [on, ha, hb, hc, hd, hv, hp, hl p hp, Bool.and_eq_true, decide_eq_true_eq, true_and]
    constructor
    · intro h; exact ⟨h.1.1, h.2.1⟩
    · intro h; exact ⟨⟨h.1, line_x hx hp h.1⟩, h.2, line_x hcx (hl p hp) h.2⟩
  have e0 : crs a b a = 0 := by simp only [crs]; grind
  have e1 : crs a b b = 0 := by simp only [crs]; grind
  have hm : ∀ q, q ∈ ends a b c d ↔ (q = a ∨ q = b ∨ q = c ∨ q = d) ∧ btw q.1 a.1 b.1 = true ∧ btw q.1 c.1 d.1 = true := by
    intro q
    rw [mem_ends]
    constructor
    · rintro ⟨hq, h⟩
      refine ⟨hq, ?_⟩
      rcases hq with rfl | rfl | rfl | rfl <;> exact (hon _ ‹_› ‹_›).1 h
    · rintro ⟨hq, h⟩
      refine ⟨hq, ?_⟩
      rcases hq with rfl | rfl | rfl | rfl <;> exact (hon _ ‹_› ‹_›).2 h
  have inj : ∀ p q : Pt, p ∈ ends a b c d → q ∈ ends a b c d → p.1 = q.1 → p = q := by
    intro p q hp hq he
    have hz : ∀ p, p ∈ ends a b c d → crs a b p = 0 := by
      intro p hp; rcases ((hm p).1 hp).1 with rfl | rfl | rfl | rfl <;> assumption
    exact line_inj hx (hz p hp) (hz q hq) he
  have hb' : ∀ n x y : Int, btw n x y = true ↔ (min x y ≤ n ∧ n ≤ max x y) := by
    intro n x y; simp only [btw, Bool.or_eq_true, Bool.and_eq_true, decide_eq_true_eq]; omega
  unfold common
  split
  · rename_i h
    rw [ends_zero]; rfl
    intro q hq; have := (hm q).1 hq; rw [hb', hb'] at this; omega
  · split
    · rename_i h0 h
      -- the one point: the end that is at lo
      have : ∃ p, (p = a ∨ p = b ∨ p = c ∨ p = d) ∧ p.1 = max (min a.1 b.1) (min c.1 d.1) := by
        by_cases k1 : max (min a.1 b.1) (min c.1 d.1) = a.1
        · exact ⟨a, by simp, k1.symm⟩
        by_cases k2 : max (min a.1 b.1) (min c.1 d.1) = b.1
        · exact ⟨b, by simp, k2.symm⟩
        by_cases k3 : max (min a.1 b.1) (min c.1 d.1) = c.1
        · exact ⟨c, by simp, k3.symm⟩
        exact ⟨d, by simp, by omega⟩
      obtain ⟨p, hp, hpx⟩ := this
      have hpm : p ∈ ends a b c d := (hm p).2 ⟨hp, by rw [hb', hb']; omega⟩
      rw [ends_one hpm]; rfl
      intro q hq
      refine inj q p hq hpm ?_
      have := (hm q).1 hq; rw [hb', hb'] at this; omega
    · rename_i h0 h
      have : ∃ p, (p = a ∨ p = b ∨ p = c ∨ p = d) ∧ p.1 = max (min a.1 b.1) (min c.1 d.1) := by
        by_cases k1 : max (min a.1 b.1) (min c.1 d.1) = a.1
        · exact ⟨a, by simp, k1.symm⟩
        by_cases k2 : max (min a.1 b.1) (min c.1 d.1) = b.1
        · exact ⟨b, by simp, k2.symm⟩
        by_cases k3 : max (min a.1 b.1) (min c.1 d.1) = c.1
        · exact ⟨c, by simp, k3.symm⟩
        exact ⟨d, by simp, by omega⟩
      obtain ⟨p, hp, hpx⟩ := this
      have : ∃ q, (q = a ∨ q = b ∨ q = c ∨ q = d) ∧ q.1 = min (max a.1 b.1) (max c.1 d.1) := by
        by_cases k1 : min (max a.1 b.1) (max c.1 d.1) = a.1
        · exact ⟨a, by simp, k1.symm⟩
        by_cases k2 : min (max a.1 b.1) (max c.1 d.1) = b.1
        · exact ⟨b, by simp, k2.symm⟩
        by_cases k3 : min (max a.1 b.1) (max c.1 d.1) = c.1
        · exact ⟨c, by simp, k3.symm⟩
        exact ⟨d, by simp, by omega⟩
      obtain ⟨q, hq, hqx⟩ := this
      have hpm : p ∈ ends a b c d := (hm p).2 ⟨hp, by rw [hb', hb']; omega⟩
      have hqm : q ∈ ends a b c d := (hm q).2 ⟨hq, by rw [hb', hb']; omega⟩
      rw [ends_two hpm hqm (fun e => by rw [e] at hpx; omega)]; rfl
      intro x hxm
      have h3 := (hm x).1 hxm; rw [hb', hb'] at h3
      by_cases e : x.1 = p.1
      · exact .inl (inj x p hxm hpm e)
      · right
        refine inj x q hxm hqm ?_
        rcases h3.1 with rfl | rfl | rfl | rfl <;> omega
theorem common_comm_axes {a b c d : Pt} : ((ends (sw a) (sw b) (sw c) (sw d)).length) = (ends a b c d).length := by
  have h : ∀ l out, List.foldl (add1 (sw a) (sw b) (sw c) (sw d)) (out.map sw) (l.map sw) = (List.foldl (add1 a b c d) out l).map sw := by
    intro l
    induction l with
    | nil => intro out; rfl
    | cons p l ih =>
      intro out
      have : add1 (sw a) (sw b) (sw c) (sw d) (out.map sw) (sw p) = (add1 a b c d out p).map sw := by
        unfold add1
        have hc : (out.map sw).contains (sw p) = out.contains p := by
          rw [Bool.eq_iff_iff]; simp only [List.contains_iff_mem, List.mem_map, sw_inj]; grind
        rw [hc, on_sw, on_sw]; split <;> simp
      simp only [List.map_cons, List.foldl_cons, this, ih]
  have := h [a, b, c, d] []
  unfold ends
  have e := congrArg List.length this
  simpa using e
theorem meet_eq (a b c d : Pt) : meetP a b c d = meetR a b c d := by
  unfold meetP meetR
  by_cases hv : (vld a && vld b && vld c && vld d) = true
  · simp only [hv, Bool.not_true, Bool.false_eq_true, if_false]
    simp only [Bool.and_eq_true] at hv
    obtain ⟨⟨⟨ha, hb⟩, hc⟩, hd⟩ := hv
    have t0 : ∀ p q r : Pt, turn p p q * turn p p r = 0 := by
      intro p q r
      have : turn p p q = 0 := by unfold turn cross crs sgn; grind
      rw [this]; simp
    split
    · rename_i h; subst h
      have hm : ∀ q, q ∈ ends a a c d ↔ q = a ∧ on a c d = true := by
        intro q; rw [mem_ends]; constructor
        · rintro ⟨_, h1, h2⟩; obtain rfl := on_self h1; exact ⟨rfl, h2⟩
        · rintro ⟨rfl, h⟩; exact ⟨by simp, on_left ha ha, h⟩
      rw [has_on hc hd ha]
      by_cases h : on a c d = true
      · rw [ends_one ((hm a).2 ⟨rfl, h⟩) (fun q hq => ((hm q).1 hq).1)]; simp [h]
      · rw [ends_zero (fun q hq => h ((hm q).1 hq).2)]; simp [h, t0]
    · rename_i hab
      split
      · rename_i h; subst h
        have hm : ∀ q, q ∈ ends a b c c ↔ q = c ∧ on c a b = true := by
          intro q; rw [mem_ends]; constructor
          · rintro ⟨_, h1, h2⟩; obtain rfl := on_self h2; exact ⟨rfl, h1⟩
          · rintro ⟨rfl, h⟩; exact ⟨by simp, h, on_left hc hc⟩
        rw [has_on ha hb hc]
        by_cases h : on c a b = true
        · rw [ends_one ((hm c).2 ⟨rfl, h⟩) (fun q hq => ((hm q).1 hq).1)]; simp [h]
        · rw [ends_zero (fun q hq => h ((hm q).1 hq).2)]; simp [h, t0]
      · rename_i hcd
        split
        · rename_i h
          have h1 := (turn_zero ha hb hc).1 h.1
          have h2 := (turn_zero ha hb hd).1 h.2
          have hp : ¬ (turn a b c * turn a b d < 0 ∧ turn c d a * turn c d b < 0) := by rw [h.1]; simp
          rw [if_neg hp]
          have fin : ∀ n : Nat, (n : Int) = (if 0 < n then (n : Int) else 0) := by intro n; split <;> omega
          split
          · rename_i hx
            rw [← col_x ha hb hc hd hx hcd h1 h2]; exact fin _
          · rename_i hx
            have hy : a.2 ≠ b.2 := fun e => hab (Prod.ext (by omega) e)
            have := col_x (a := sw a) (b := sw b) (c := sw c) (d := sw d) (by rwa [vld_sw]) (by rwa [vld_sw]) (by rwa [vld_sw]) (by rwa [vld_sw]) hy (fun e => hcd (sw_inj.1 e)) (by rw [crs_sw, h1]; rfl) (by rw [crs_sw, h2]; rfl)
            rw [common_comm_axes] at this
            simp only [sw] at this
            rw [← this]; exact fin _
        · rename_i h
          rw [has_on ha hb hc, has_on ha hb hd, has_on hc hd ha, has_on hc hd hb]
          have hu : ∀ p q, p ∈ ends a b c d → q ∈ ends a b c d → p = q := by
            intro p q hp hq
            by_cases e : p = q
            · exact e
            · exfalso
              have k1 := ((mem_ends ..).1 hp).2
              have k2 := ((mem_ends ..).1 hq).2
              simp only [on, Bool.and_eq_true, decide_eq_true_eq] at k1 k2
              have := two_common hab hcd e k1.1.1.1.2 k2.1.1.1.2 k1.2.1.1.2 k2.2.1.1.2
              exact h ⟨(turn_zero ha hb hc).2 this.1, (turn_zero ha hb hd).2 this.2⟩
          by_cases hs : (on c a b || on d a b || on a c d || on b c d) = true
          · have : ∃ p, p ∈ ends a b c d := by
              simp only [Bool.or_eq_true] at hs
              rcases hs with ((h1 | h1) | h1) | h1
              · exact ⟨c, (mem_ends ..).2 ⟨by simp, h1, on_left hc hd⟩⟩
              · exact ⟨d, (mem_ends ..).2 ⟨by simp, h1, on_right hc hd⟩⟩
              · exact ⟨a, (mem_ends ..).2 ⟨by simp, on_left ha hb, h1⟩⟩
              · exact ⟨b, (mem_ends ..).2 ⟨by simp, on_right ha hb, h1⟩⟩
            obtain ⟨p, hp⟩ := this
            rw [ends_one hp (fun q hq => hu q p hq hp), if_pos hs]; simp
          · rw [if_neg hs]
            rw [ends_zero (fun q hq => hs ?_)]
            · simp
            · have k := (mem_ends ..).1 hq
              simp only [Bool.or_eq_true]
              rcases k.1 with rfl | rfl | rfl | rfl
              · exact .inl (.inr k.2.2)
              · exact .inr k.2.2
              · exact .inl (.inl (.inl k.2.1))
              · exact .inl (.inl (.inr k.2.1))
  · simp [hv]
end Go.Proofs.Yteadnlodccnfcaa.Planar

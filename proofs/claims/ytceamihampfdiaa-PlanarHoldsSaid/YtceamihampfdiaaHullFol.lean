/- The chapter's way round a hull: plain laws. -/
import Derived.Test.YtceamihampfdiaaHullPlain
namespace Go.Proofs.Ytceamihampfdiaa
set_option linter.unusedSimpArgs false
set_option linter.unusedVariables false
open Go.RowKit Go.Proofs Planar
/-- is p the better next vertex? -/
def nearer (a nx p : Pt) : Bool := decide (nx = a) || (decide (turn a nx p < 0) || (decide (turn a nx p = 0) && decide (dist2 a nx < dist2 a p)))
def folS (a nx p : Pt) : Pt := if nearer a nx p then p else nx
theorem sgn_neg {n : Int} : sgn n < 0 ↔ n < 0 := by unfold sgn; split <;> (try split) <;> omega
theorem sgn_nul {n : Int} : sgn n = 0 ↔ n = 0 := by unfold sgn; split <;> (try split) <;> omega
theorem turn_crs {a b c : Pt} (ha : vld a = true) (hb : vld b = true) (hc : vld c = true) : turn a b c = sgn (crs a b c) := by
  unfold turn cross; simp [ha, hb, hc]
theorem dist_raw {a b : Pt} (ha : vld a = true) (hb : vld b = true) : dist2 a b = (b.1 - a.1) * (b.1 - a.1) + (b.2 - a.2) * (b.2 - a.2) := by
  unfold dist2; simp [ha, hb]
/-- one step of the search -/
theorem fol_step {l : List Pt} {a b : Pt} (hv : ∀ p ∈ l, vld p = true) (ha : a ∈ l) (hb : b ∈ l) (hab : a ≠ b) (h0 : ∀ p ∈ l, 0 ≤ crs a b p)
    (hd : ∀ p ∈ l, crs a b p = 0 → p = b ∨ dist2 a p < dist2 a b) : ∀ nx ∈ l, ∀ p ∈ l, (nx = b ∨ p = b) → folS a nx p = b := by
  intro nx hnx p hp h
  have hva := hv a ha; have hvb := hv b hb; have hvn := hv nx hnx; have hvp := hv p hp
  by_cases e : nx = b
  · subst e
    have : nearer a nx p = false := by
      unfold nearer
      rw [turn_crs hva hvb hvp]
      have h1 := h0 p hp
      have h2 := hd p hp
      simp only [Bool.or_eq_false_iff, decide_eq_false_iff_not, Bool.and_eq_false_iff, sgn_neg, sgn_nul]
      refine ⟨fun h => hab h.symm, by omega, ?_⟩
      by_cases hz : crs a nx p = 0
      · right
        rcases h2 hz with rfl | h3
        · omega
        · omega
      · left; exact hz
    unfold folS; rw [this]; rfl
  · have hpb : p = b := by rcases h with h | h; exact absurd h e; exact h
    subst hpb
    have : nearer a nx p = true := by
      unfold nearer
      rw [turn_crs hva hvn hvp, crs_neg]
      have h1 := h0 nx hnx
      simp only [Bool.or_eq_true, decide_eq_true_eq, Bool.and_eq_true, sgn_neg, sgn_nul]
      right
      by_cases hz : crs a p nx = 0
      · right
        rcases hd nx hnx hz with h3 | h3
        · exact absurd h3 e
        · exact ⟨by omega, h3⟩
      · left; omega
    unfold folS; rw [this]; rfl
theorem fol_step_one {l : List Pt} {a b : Pt} (h : ∀ p ∈ l, p = b) : ∀ nx ∈ l, ∀ p ∈ l, (nx = b ∨ p = b) → folS a nx p = b := by
  intro nx hnx p hp _
  have e1 := h nx hnx; have e2 := h p hp
  subst e1; subst e2; unfold folS; split <;> rfl
def dot (u v : Pt) : Int := u.1 * v.1 + u.2 * v.2
theorem mul_sgn {a b : Int} (ha : 0 < a) (h : 0 ≤ a * b) : 0 ≤ b := by
  rcases Int.lt_or_le b 0 with hb | hb
  · have := mul_neg' ha hb; omega
  · exact hb
theorem dot_self (u : Pt) : 0 ≤ dot u u := by
  unfold dot
  have h1 : 0 ≤ u.1 * u.1 := by rcases Int.le_total 0 u.1 with h | h; exact Int.mul_nonneg h h; have := Int.mul_nonneg (Int.neg_nonneg.2 h) (Int.neg_nonneg.2 h); rw [Int.neg_mul_neg] at this; exact this
  have h2 : 0 ≤ u.2 * u.2 := by rcases Int.le_total 0 u.2 with h | h; exact Int.mul_nonneg h h; have := Int.mul_nonneg (Int.neg_nonneg.2 h) (Int.neg_nonneg.2 h); rw [Int.neg_mul_neg] at this; exact this
  omega
theorem sq_nul {a : Int} (h : a * a ≤ 0) : a = 0 := by
  rcases Int.lt_trichotomy a 0 with h1 | h1 | h1
  · have := Int.mul_pos (Int.neg_pos.2 h1) (Int.neg_pos.2 h1)
    have e : -a * -a = a * a := Int.neg_mul_neg a a
    omega
  · exact h1
  · have := Int.mul_pos h1 h1; omega
theorem sq_nn (a : Int) : 0 ≤ a * a := by
  rcases Int.le_total 0 a with h | h
  · exact Int.mul_nonneg h h
  · have := Int.mul_nonneg (Int.neg_nonneg.2 h) (Int.neg_nonneg.2 h); rw [Int.neg_mul_neg] at this; exact this
theorem dot_nul {u : Pt} (h : dot u u ≤ 0) : u = (0, 0) := by
  unfold dot at h
  have h1 := sq_nn u.1
  have h2 := sq_nn u.2
  have e1 : u.1 = 0 := sq_nul (by omega)
  have e2 : u.2 = 0 := sq_nul (by omega)
  exact Prod.ext e1 e2
/-- who is on the way from u's start to its end is no farther, and as far only at its end -/
theorem on_way {u w : Pt} (hu : u ≠ (0, 0)) (hc : cx u w = 0) (h1 : 0 ≤ dot w u) (h2 : dot w u ≤ dot u u) : w = u ∨ dot w w < dot u u := by
  have hs : 0 < dot u u := by
    rcases Int.lt_or_le 0 (dot u u) with h | h
    · exact h
    · exact absurd (dot_nul h) hu
  have key : dot w w * dot u u = dot w u * dot w u := by
    have : dot w w * dot u u - dot w u * dot w u = cx u w * cx u w := by unfold dot cx; grind
    rw [hc] at this; omega
  rcases Int.lt_or_le (dot w w) (dot u u) with h | h
  · exact .inr h
  · left
    have k1 : dot u u * dot u u ≤ dot w w * dot u u := Int.mul_le_mul_of_nonneg_right h (by omega)
    have k2 : dot w u * dot w u ≤ dot u u * dot w u := Int.mul_le_mul_of_nonneg_right h2 h1
    have k3 : dot u u * dot w u ≤ dot u u * dot u u := Int.mul_le_mul_of_nonneg_left h2 (by omega)
    have k4 : dot u u * dot w u = dot u u * dot u u := by omega
    have k5 : dot w u = dot u u := Int.eq_of_mul_eq_mul_left (by omega) k4
    have k6 : dot w w * dot u u = dot u u * dot u u := by rw [key, k5]
    have k7 : dot w w = dot u u := Int.eq_of_mul_eq_mul_right (by omega) k6
    have k8 : dot (w.1 - u.1, w.2 - u.2) (w.1 - u.1, w.2 - u.2) = 0 := by
      have : dot (w.1 - u.1, w.2 - u.2) (w.1 - u.1, w.2 - u.2) = dot w w - 2 * dot w u + dot u u := by unfold dot; grind
      rw [this, k5, k7]; omega
    have k9 := dot_nul (by omega : dot (w.1 - u.1, w.2 - u.2) (w.1 - u.1, w.2 - u.2) ≤ 0)
    injection k9 with e1 e2
    exact Prod.ext (by omega) (by omega)
theorem not_behind {y u w : Pt} (h1 : 0 < cx y u) (h2 : 0 ≤ cx y w) (h3 : cx u w = 0) : 0 ≤ dot w u := by
  refine mul_sgn h1 ?_
  have : cx y u * dot w u = cx y w * dot u u - cx u w * dot y u := by unfold cx dot; grind
  rw [this, h3]
  have := Int.mul_nonneg h2 (dot_self u)
  omega
theorem not_beyond {u v w : Pt} (h1 : 0 < cx u v) (h2 : 0 ≤ cx v (w.1 - u.1, w.2 - u.2)) (h3 : cx u w = 0) : dot w u ≤ dot u u := by
  have h4 : 0 ≤ dot u u - dot w u := by
    refine mul_sgn h1 ?_
    have : cx u v * (dot u u - dot w u) = cx v (w.1 - u.1, w.2 - u.2) * dot u u - cx u w * dot v u := by unfold cx dot; grind
    rw [this, h3]
    have := Int.mul_nonneg h2 (dot_self u)
    omega
  omega
theorem btw_mul {a b p : Int} (h : btw p a b = true) : 0 ≤ (p - a) * (b - a) ∧ (p - a) * (b - a) ≤ (b - a) * (b - a) := by
  have h' : (a ≤ p ∧ p ≤ b) ∨ (b ≤ p ∧ p ≤ a) := by simpa [btw] using h
  rcases h' with ⟨h1, h2⟩ | ⟨h1, h2⟩
  · exact ⟨Int.mul_nonneg (by omega) (by omega), Int.mul_le_mul_of_nonneg_right (by omega) (by omega)⟩
  · have k1 := Int.mul_nonneg (show 0 ≤ a - p by omega) (show 0 ≤ a - b by omega)
    have k2 := Int.mul_le_mul_of_nonneg_right (show a - p ≤ a - b by omega) (show 0 ≤ a - b by omega)
    have e1 : (a - p) * (a - b) = (p - a) * (b - a) := by grind
    have e2 : (a - b) * (a - b) = (b - a) * (b - a) := by grind
    rw [e1] at k1 k2; rw [e2] at k2; exact ⟨k1, k2⟩
/-- the step at the vertices of a hull -/
theorem hull_fol {l : List Pt} (hv : ∀ p ∈ l, vld p = true) (hl : l.length ≤ 100) {i n : Nat} {a b : Pt} (hn : (hullP l).length = n) (ha : (hullP l)[i]? = some a) (hb : (hullP l)[(i + 1) % n]? = some b) :
    a ∈ l ∧ b ∈ l ∧ ∀ nx ∈ l, ∀ p ∈ l, (nx = b ∨ p = b) → folS a nx p = b := by
  have hi : i < n := by have := (List.getElem?_eq_some_iff.1 ha).1; omega
  obtain ⟨h0, hh⟩ : ∃ o, (hullP l)[0]? = some o := ⟨_, List.getElem?_eq_getElem (by omega)⟩
  obtain ⟨⟨hal, hbl⟩, f1, f2, f3, f4, f5⟩ := holds_facts hv hl hn ha hb hh
  refine ⟨hal, hbl, ?_⟩
  have hT := (srt_spec l).1
  have hlen := hull_len hT
  have hmem : ∀ p ∈ l, p ∈ srt l := fun p hp => ((srt_spec l).2 p).2 hp
  by_cases h2 : (srt l).length < 2
  · have hone : ∃ x, srt l = [x] := by
      have : 0 < (srt l).length := List.length_pos_of_mem (hmem a hal)
      exact List.length_eq_one_iff.1 (by omega)
    obtain ⟨x, hx⟩ := hone
    have hall : ∀ p ∈ l, p = x := fun p hp => by have := hmem p hp; rw [hx] at this; simpa using this
    have hbx := hall b hbl
    exact fol_step_one fun p hp => by rw [hall p hp, hbx]
  · have h2' : 2 ≤ (srt l).length := by omega
    have hP := hullP_ok hv hl
    have hn2 : 2 ≤ n := by have := hlen.2.2 h2'; rw [← hP] at this; omega
    have hab := f4 (by omega)
    have h0' : ∀ p ∈ l, 0 ≤ crs a b p := fun p hp => by
      have := (hull_edge (n := n) hT h2' (by rw [← hP]; exact hn) (by rw [← hP]; exact ha) (by rw [← hP]; exact hb)).1 p (hmem p hp); exact this
    refine fol_step hv hal hbl hab h0' fun p hp hc => ?_
    have hu : sub b a ≠ (0, 0) := by
      intro e; unfold sub at e; injection e with e1 e2
      exact hab (Prod.ext (by omega) (by omega))
    have hcx : cx (sub b a) (sub p a) = 0 := by rw [← crs_cx0]; exact hc
    have fin : 0 ≤ dot (sub p a) (sub b a) → dot (sub p a) (sub b a) ≤ dot (sub b a) (sub b a) → p = b ∨ dist2 a p < dist2 a b := fun g1 g2 => by
      rcases on_way hu hcx g1 g2 with e | e
      · left; unfold sub at e; injection e with e1 e2; exact Prod.ext (by omega) (by omega)
      · right; rw [dist_raw (hv a hal) (hv p hp), dist_raw (hv a hal) (hv b hbl)]; exact e
    by_cases hn3 : n = 2
    · subst hn3
      obtain ⟨g1, g2, g3⟩ := hull_two hT h2' (by rw [← hP]; exact hn) (by rw [← hP]; exact ha) (by rw [← hP]; exact hb) (hmem p hp)
      have k1 := btw_mul g2
      have k2 := btw_mul g3
      exact fin (by unfold dot sub; simp only; omega) (by unfold dot sub; simp only; omega)
    · have hn4 : 2 < n := by omega
      obtain ⟨c, hc'⟩ : ∃ c, (hullP l)[(i + 2) % n]? = some c := ⟨_, List.getElem?_eq_getElem (by rw [hn]; exact Nat.mod_lt _ (by omega))⟩
      obtain ⟨z, hz⟩ : ∃ z, (hullP l)[(i + n - 1) % n]? = some z := ⟨_, List.getElem?_eq_getElem (by rw [hn]; exact Nat.mod_lt _ (by omega))⟩
      have m1 : ((i + n - 1) % n + 1) % n = i := by rw [Nat.mod_add_mod]; rw [show i + n - 1 + 1 = i + n by omega, Nat.add_mod_right, Nat.mod_eq_of_lt hi]
      have m2 : ((i + n - 1) % n + 2) % n = (i + 1) % n := by rw [Nat.mod_add_mod]; rw [show i + n - 1 + 2 = i + 1 + n by omega, Nat.add_mod_right]
      have m3 : ((i + 1) % n + 1) % n = (i + 2) % n := by rw [Nat.mod_add_mod]
      rw [hP] at hn ha hb hc' hz
      have t1 := hull_turn hT h2' hn hn4 ha hb hc'
      have t2 := hull_turn hT h2' hn hn4 hz (by rw [m1]; exact ha) (by rw [m2]; exact hb)
      have e1 := (hull_edge hT h2' hn hz (by rw [m1]; exact ha)).1 p (hmem p hp)
      have e2 := (hull_edge hT h2' hn hb (by rw [m3]; exact hc')).1 p (hmem p hp)
      refine fin ?_ ?_
      · refine not_behind (y := sub a z) ?_ ?_ hcx
        · rw [← crs_cx]; exact t2
        · rw [← crs_cx]; exact e1
      · refine not_beyond (v := sub c b) ?_ ?_ hcx
        · rw [← crs_cx]; exact t1
        · have e3 : ((sub p a).1 - (sub b a).1, (sub p a).2 - (sub b a).2) = sub p b := by unfold sub; simp only; exact Prod.ext (by simp only; omega) (by simp only; omega)
          rw [e3, ← crs_cx0]; exact e2
/-- the first vertex occurs once -/
theorem hull_head_ne {T : List Pt} (hT : Asc2 T) {k : Nat} {m x : Pt} (hk : 0 < k) (hm : (hullR T)[0]? = some m) (hx : (hullR T)[k]? = some x) : x ≠ m := by
  have hlen := hull_len hT
  have hkl := (List.getElem?_eq_some_iff.1 hx).1
  by_cases h2 : T.length < 2
  · rw [hull_small h2] at hkl; omega
  · obtain ⟨m', M, p, r, hm', hM, ht, hp, hr, hp0, hr0, hmM, hn, hg⟩ := two_ends hT (by omega)
    have em : m = m' := by
      have := hg 0 (by omega)
      rw [hm, way_start ht hp hp0] at this
      injection this
    subst em
    rw [hg k (by omega)] at hx
    intro e
    subst e
    by_cases hkp : k ≤ p
    · rw [way_lo ht hp hr hkp] at hx
      have hb : (chR T)[p]? = some x := by have := way_lo ht hp hr (Nat.zero_le p); rw [way_start ht hp hp0] at this; rw [this]; rfl
      exact lx_irr _ (desc_idx ht.lo.desc (by omega) hx hb)
    · rw [way_up hp hr (by omega)] at hx
      exact lx_irr _ (two_up_lt ht (show 0 < p + r - k by omega) (two_up_top ht) hx)
theorem hullP_head_ne {l : List Pt} (hv : ∀ p ∈ l, vld p = true) (hl : l.length ≤ 100) {k : Nat} {m x : Pt} (hk : 0 < k) (hm : (hullP l)[0]? = some m) (hx : (hullP l)[k]? = some x) : x ≠ m := by
  rw [hullP_ok hv hl] at hm hx
  exact hull_head_ne (srt_spec l).1 hk hm hx
end Go.Proofs.Ytceamihampfdiaa

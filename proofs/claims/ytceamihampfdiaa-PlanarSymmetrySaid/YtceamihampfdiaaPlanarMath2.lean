/- More plain facts on points and segments: the symmetries of Cross and Meet, and when segments meet. -/
import Derived.Test.YtceamihampfdiaaPlanarMath
namespace Go.Proofs.Ytceamihampfdiaa.Planar
set_option linter.unusedSimpArgs false
set_option linter.unusedVariables false
theorem ends_pos {a b c d : Pt} (ha : vld a = true) (hb : vld b = true) (hc : vld c = true) (hd : vld d = true) :
    0 < (ends a b c d).length ↔ (on a c d || on b c d || on c a b || on d a b) = true := by
  constructor
  · intro h
    obtain ⟨p, hp⟩ := List.exists_mem_of_length_pos h
    have k := (mem_ends ..).1 hp
    simp only [Bool.or_eq_true]
    rcases k.1 with rfl | rfl | rfl | rfl
    · exact .inl (.inl (.inl k.2.2))
    · exact .inl (.inl (.inr k.2.2))
    · exact .inl (.inr k.2.1)
    · exact .inr k.2.1
  · intro hs
    simp only [Bool.or_eq_true] at hs
    have : ∃ p, p ∈ ends a b c d := by
      rcases hs with ((h1 | h1) | h1) | h1
      · exact ⟨a, (mem_ends ..).2 ⟨by simp, on_left ha hb, h1⟩⟩
      · exact ⟨b, (mem_ends ..).2 ⟨by simp, on_right ha hb, h1⟩⟩
      · exact ⟨c, (mem_ends ..).2 ⟨by simp, h1, on_left hc hd⟩⟩
      · exact ⟨d, (mem_ends ..).2 ⟨by simp, h1, on_right hc hd⟩⟩
    obtain ⟨p, hp⟩ := this
    exact List.length_pos_of_mem hp
theorem meetR_bad {a b c d : Pt} (h : (vld a && vld b && vld c && vld d) = false) : meetR a b c d = 0 := by simp [meetR, h]
theorem meets_eq {a b c d : Pt} (ha : vld a = true) (hb : vld b = true) (hc : vld c = true) (hd : vld d = true) :
    decide (0 < meetR a b c d) = ((on a c d || on b c d || on c a b || on d a b) || (decide (turn a b c * turn a b d < 0) && decide (turn c d a * turn c d b < 0))) := by
  have hp := ends_pos ha hb hc hd
  simp only [meetR, ha, hb, hc, hd, Bool.and_self, Bool.not_true, Bool.false_eq_true, if_false]
  by_cases h : (on a c d || on b c d || on c a b || on d a b) = true
  · rw [if_pos (hp.2 h), h]; simp; have := hp.2 h; omega
  · rw [if_neg (fun e => h (hp.1 e))]
    simp only [Bool.not_eq_true] at h
    rw [h]
    split
    · rename_i h1; simp [h1.1, h1.2]
    · rename_i h1; simp; omega
theorem cross_cyc (a b c : Pt) : cross b c a = cross a b c := by
  have : crs b c a = crs a b c := by simp only [crs]; grind
  simp only [cross, this]
  cases vld a <;> cases vld b <;> cases vld c <;> rfl
theorem cross_alt (a b c : Pt) : cross b a c = - cross a b c := by
  have : crs b a c = - crs a b c := by simp only [crs]; grind
  simp only [cross, this]
  cases vld a <;> cases vld b <;> cases vld c <;> rfl
theorem turn_alt (a b c : Pt) : turn b a c = - turn a b c := by
  unfold turn; rw [cross_alt a b c]; unfold sgn; omega
theorem dist2_symm (a b : Pt) : dist2 a b = dist2 b a := by
  unfold dist2
  cases vld a <;> cases vld b <;> simp; grind
theorem vld4 (a b c d : Pt) : (vld c && vld d && vld a && vld b) = (vld a && vld b && vld c && vld d) := by
  cases vld a <;> cases vld b <;> cases vld c <;> cases vld d <;> rfl
theorem vld4' (a b c d : Pt) : (vld a && vld b && vld d && vld c) = (vld a && vld b && vld c && vld d) := by
  cases vld a <;> cases vld b <;> cases vld c <;> cases vld d <;> rfl
theorem meet_comm (a b c d : Pt) : meetR c d a b = meetR a b c d := by
  have h : (ends c d a b).length = (ends a b c d).length := ends_len (fun q => by rw [mem_ends, mem_ends]; grind)
  unfold meetR
  rw [vld4, h]
  congr 2
  simp only [and_comm]
theorem meet_rev (a b c d : Pt) : meetR a b d c = meetR a b c d := by
  have h : (ends a b d c).length = (ends a b c d).length := ends_len (fun q => by rw [mem_ends, mem_ends, on_symm q d c]; grind)
  unfold meetR
  rw [vld4', h]
  congr 2
  have e1 : turn a b d * turn a b c = turn a b c * turn a b d := Int.mul_comm _ _
  have e2 : turn d c a * turn d c b = turn c d a * turn c d b := by rw [turn_alt c d a, turn_alt c d b]; grind
  rw [e1, e2]
end Go.Proofs.Ytceamihampfdiaa.Planar

/- What Hull returns: plain laws. -/
import Derived.Test.YtceamihampfdiaaHullKit
namespace Go.Proofs.Ytceamihampfdiaa
set_option linter.unusedSimpArgs false
set_option linter.unusedVariables false
open Go.RowKit Go.Proofs Planar
theorem hullP_same {a b : List Pt} (hm : ∀ z, z ∈ a ↔ z ∈ b) (ha : a.length ≤ 8192) (hb : b.length ≤ 8192) : hullP a = hullP b := by
  unfold hullP
  by_cases h : ∀ p ∈ b, vld p = true
  · rw [if_pos ⟨ha, fun p hp => h p ((hm p).1 hp)⟩, if_pos ⟨hb, h⟩, hullL_same hm]
  · rw [if_neg (fun h' => h fun p hp => h'.2 p ((hm p).2 hp)), if_neg (fun h' => h h'.2)]
theorem hullR_len (T : List Pt) : (hullR T).length ≤ 2 * T.length := by
  unfold hullR
  split
  · omega
  · have h1 := chR_len T
    have h2 := chR_len T.reverse
    simp at *
    omega
theorem hullP_len {l : List Pt} (h : l.length ≤ 100) : (hullP l).length ≤ 200 := by
  unfold hullP
  split
  · have := hullR_len (srt l); have := srt_len l; unfold hullL; omega
  · simp
theorem hullP_mem {l : List Pt} {z : Pt} (h : z ∈ hullP l) : z ∈ l ∧ ∀ p ∈ l, vld p = true := by
  unfold hullP at h
  split at h
  · rename_i hc
    exact ⟨((srt_spec l).2 z).1 (hull_mem (srt_spec l).1 h), hc.2⟩
  · cases h
theorem hullP_ok {l : List Pt} (hv : ∀ p ∈ l, vld p = true) (hl : l.length ≤ 100) : hullP l = hullR (srt l) := by
  unfold hullP hullL
  rw [if_pos ⟨by omega, hv⟩]
theorem hullP_bad {l : List Pt} {p : Pt} (hp : p ∈ l) (hv : vld p = false) : hullP l = [] := by
  unfold hullP
  rw [if_neg]
  rintro ⟨_, h⟩
  rw [h p hp] at hv
  cases hv
theorem hullP_zero {l : List Pt} (hv : ∀ p ∈ l, vld p = true) (hl : l.length ≤ 100) : (hullP l).length = 0 ↔ l.length = 0 := by
  rw [hullP_ok hv hl, (hull_len (srt_spec l).1).1]
  constructor
  · intro h
    match l with
    | [] => rfl
    | x :: r =>
      have := ((srt_spec (x :: r)).2 x).2 (by simp)
      rw [List.eq_nil_of_length_eq_zero h] at this
      cases this
  · intro h
    rw [List.eq_nil_of_length_eq_zero h]; rfl
theorem head_least {T : List Pt} (hT : Asc2 T) {m p : Pt} (hm : T.head? = some m) (hp : p ∈ T) : ¬ lx p m := by
  match T, hT, hm, hp with
  | x :: r, hT, hm, hp =>
    have e : x = m := by simpa using hm
    subst e
    rcases List.mem_cons.1 hp with rfl | hp
    · exact lx_irr _
    · exact lx_asym ((List.pairwise_cons.1 hT).1 p hp)
theorem turn_nn {a b c : Pt} (ha : vld a = true) (hb : vld b = true) (hc : vld c = true) (h : 0 ≤ crs a b c) : 0 ≤ turn a b c := by
  unfold turn cross sgn; simp only [ha, hb, hc, Bool.and_self, if_true]; split <;> (try split) <;> omega
theorem turn_pos {a b c : Pt} (ha : vld a = true) (hb : vld b = true) (hc : vld c = true) (h : 0 < crs a b c) : 0 < turn a b c := by
  unfold turn cross sgn; simp only [ha, hb, hc, Bool.and_self, if_true]; split <;> (try split) <;> omega
theorem on_self {a : Pt} (ha : vld a = true) : on a a a = true := by
  simp [on, ha, crs, btw]
/-- what the statement asks of the vertices -/
theorem holds_facts {l : List Pt} (hv : ∀ p ∈ l, vld p = true) (hl : l.length ≤ 100) {i n : Nat} {a b h0 : Pt} (hn : (hullP l).length = n) (ha : (hullP l)[i]? = some a) (hb : (hullP l)[(i + 1) % n]? = some b) (hh : (hullP l)[0]? = some h0) :
    (a ∈ l ∧ b ∈ l) ∧ (∀ p ∈ l, 0 ≤ turn a b p) ∧ (n < 3 → ∀ p ∈ l, on p a b = true) ∧ (∀ p ∈ l, ¬ lx p h0) ∧ (1 < n → a ≠ b) ∧ (2 < n → ∀ c, (hullP l)[(i + 2) % n]? = some c → 0 < turn a b c) := by
  have hab : a ∈ l ∧ b ∈ l := ⟨(hullP_mem (List.mem_of_getElem? ha)).1, (hullP_mem (List.mem_of_getElem? hb)).1⟩
  have hT := (srt_spec l).1
  have hmem : ∀ p ∈ l, p ∈ srt l := fun p hp => ((srt_spec l).2 p).2 hp
  rw [hullP_ok hv hl] at hn ha hb hh ⊢
  have hva := hv a hab.1
  have hvb := hv b hab.2
  have hlen := hull_len hT
  have hn0 : 0 < n := by
    have := (List.getElem?_eq_some_iff.1 ha).1; omega
  have hT0 : 0 < (srt l).length := by
    rcases Nat.eq_zero_or_pos (srt l).length with h | h
    · have := hlen.1.2 h; omega
    · exact h
  have hleast : ∀ p ∈ l, ¬ lx p h0 := fun p hp => by
    rw [hull_first hT hT0] at hh
    exact head_least hT hh (hmem p hp)
  by_cases h2 : (srt l).length < 2
  · have h1 : (srt l).length = 1 := by omega
    have e := hlen.2.1 h1
    obtain ⟨x, hx⟩ : ∃ x, srt l = [x] := List.length_eq_one_iff.1 h1
    rw [e, hx] at ha hb hn
    simp at hn
    subst hn
    have hall : ∀ p ∈ l, p = x := fun p hp => by have := hmem p hp; rw [hx] at this; simpa using this
    have hax := hall a hab.1
    have hbx := hall b hab.2
    subst hax
    subst hbx
    refine ⟨hab, fun p hp => ?_, fun _ p hp => ?_, hleast, fun h => by omega, fun h => by omega⟩
    · have := hall p hp; subst this
      exact turn_nn (hv _ hp) (hv _ hp) (hv _ hp) (by unfold crs; grind)
    · have := hall p hp; subst this
      exact on_self (hv _ hp)
  · have h2' : 2 ≤ (srt l).length := by omega
    obtain ⟨f1, f2, f3, f4⟩ := hull_edge hT h2' hn ha hb
    refine ⟨hab, fun p hp => turn_nn hva hvb (hv p hp) (f1 p (hmem p hp)), fun h3 p hp => ?_, hleast, fun _ => f4, fun h3 c hc => ?_⟩
    · have hn2 : n = 2 := by have := hlen.2.2 h2'; omega
      subst hn2
      obtain ⟨g1, g2, g3⟩ := hull_two hT h2' hn ha hb (hmem p hp)
      simp [on, hva, hvb, hv p hp, g1, g2, g3]
    · have hcl : c ∈ l := ((srt_spec l).2 c).1 (hull_mem hT (List.mem_of_getElem? hc))
      exact turn_pos hva hvb (hv c hcl) (hull_turn hT h2' hn h3 ha hb hc)
end Go.Proofs.Ytceamihampfdiaa

/- Two rows that a call appends to in turn: polygons, and another row. -/
import Derived.Test.YteadnlodccnfcaaCtrSome
namespace Go.Proofs.Yteadnlodccnfcaa
set_option linter.unusedSimpArgs false
set_option linter.unusedVariables false
set_option maxRecDepth 100000
open Go.RowKit Planar
theorem own_two_ne {W : World} {base base2 size size2 n n2 : Nat} {e e2 : TypeId} {v v2 : Value} {cs cs2 : List Value} (h : W.ownsRow base e size v n cs) (h2 : W.ownsRow base2 e2 size2 v2 n2 cs2) (hne : e ≠ e2) : v.ownBlock = none ∨ v.ownBlock ≠ v2.ownBlock := by
  rcases h.2 with ⟨rfl, _⟩ | ⟨g, cap, cur, rfl, _, hh, _⟩
  · left; rfl
  · right
    rcases h2.2 with ⟨rfl, _⟩ | ⟨g', cap', cur', rfl, _, hh', _⟩
    · simp [Value.ownBlock]
    · intro e1
      simp only [Value.ownBlock, Option.some.injEq] at e1
      subst e1
      rw [hh] at hh'
      injection hh' with hh'
      injection hh' with _ hh'
      exact hne hh'
def ApartP (hs : List PolH) (xs : List (List Pt)) (v : Value) : Prop := ∀ (i : Nat) (h : PolH) (x : List Pt), hs[i]? = some h → xs[i]? = some x → x = [] ∨ (psl h).ownBlock ≠ v.ownBlock
def Two (base : Nat) (w : World) (s : Value) (xs : List (List Pt)) (e2 : TypeId) (k2 : Nat) (v2 : Value) (n2 : Nat) (cs2 : List Value) : Prop :=
  ∃ hs : List PolH, w.ownsRow base 42 1 s hs.length (hs.flatMap encPol) ∧ NestAt psl ptag 2 encPt (fun o : List Pt => o) w hs xs ∧ ApartP hs xs s ∧ ApartP hs xs v2 ∧ w.ownsRow base e2 k2 v2 n2 cs2
section
variable {base : Nat} {w w' : World} {s s' : Value} {xs : List (List Pt)} {e2 : TypeId} {k2 : Nat} {v2 v2' : Value} {n2 n2' : Nat} {cs2 cs2' : List Value}
theorem Two.nil (h : w.ownsRow base e2 k2 v2 n2 cs2) : Two base w (.slice none 0 0) [] e2 k2 v2 n2 cs2 :=
  ⟨[], World.ownsRow_nil _ _ _ _, ⟨rfl, fun i h x hh => by simp at hh⟩, fun i h x hh => by simp at hh, fun i h x hh => by simp at hh, h⟩
theorem Two.below (h : Two base w s xs e2 k2 v2 n2 cs2) (hb : Below w.heap.size w w') : Two base w' s xs e2 k2 v2 n2 cs2 := by
  obtain ⟨hs, h1, h2, h3, h4, h5⟩ := h
  exact ⟨hs, own_below h1 hb, h2.below hb, h3, h4, own_below h5 hb⟩
theorem Two.rd (h : Two base w s xs e2 k2 v2 n2 cs2) : RdPols w s xs := by
  obtain ⟨hs, h1, h2, _⟩ := h
  exact ⟨hs, Rd.own encPol_len h1, h2⟩
theorem Two.out (h : Two base w s xs e2 k2 v2 n2 cs2) : OwnPols base w s xs := by
  obtain ⟨hs, h1, h2, h3, _⟩ := h
  exact ⟨hs, h1, h2, h3⟩
theorem get_snoc {hs : List PolH} {x : List Pt} {h : PolH} (hl : hs.length = xs.length) {i : Nat} {h' : PolH} {x' : List Pt} (h1 : (hs ++ [h])[i]? = some h') (h2 : (xs ++ [x])[i]? = some x') : (hs[i]? = some h' ∧ xs[i]? = some x') ∨ (h' = h ∧ x' = x) := by
  rcases Nat.lt_or_ge i hs.length with hlt | hge
  · left
    rw [List.getElem?_append_left hlt] at h1
    rw [List.getElem?_append_left (by rw [← hl]; exact hlt)] at h2
    exact ⟨h1, h2⟩
  · right
    rw [List.getElem?_append_right hge] at h1
    rw [List.getElem?_append_right (by rw [← hl]; exact hge), ← hl] at h2
    have e0 : i - hs.length = 0 := by
      rcases Nat.eq_zero_or_pos (i - hs.length) with h0 | h0
      · exact h0
      · rw [List.getElem?_eq_none (by simp; omega)] at h1; cases h1
    rw [e0] at h1 h2
    simp at h1 h2
    exact ⟨h1.symm, h2.symm⟩
theorem Two.push {hs : List PolH} {h : PolH} {x : List Pt} (h1 : w.ownsRow base 42 1 s hs.length (hs.flatMap encPol)) (h2 : NestAt psl ptag 2 encPt (fun o : List Pt => o) w hs xs) (h3 : ApartP hs xs s) (h4 : ApartP hs xs v2) (h5 : w.ownsRow base e2 k2 v2 n2 cs2) (hne : e2 ≠ 42)
    (hown : w'.ownsRow base 42 1 s' (hs ++ [h]).length ((hs ++ [h]).flatMap encPol)) (hg : w.grownBy w' s.ownBlock) (hat : s'.ownBlock = s.ownBlock ∨ s'.ownBlock = some w.heap.size) (hr : Rd 2 encPt w (psl h) x) (hx1 : x = [] ∨ (psl h).ownBlock ≠ s.ownBlock) (hx2 : x = [] ∨ (psl h).ownBlock ≠ v2.ownBlock) :
    Two base w' s' (xs ++ [x]) e2 k2 v2 n2 cs2 := by
  have far : ∀ {h : PolH} {x : List Pt}, Rd 2 encPt w (psl h) x → (x = [] ∨ (psl h).ownBlock ≠ s.ownBlock) → x = [] ∨ (psl h).ownBlock ≠ s'.ownBlock := fun {h x} hr hx => by
    rcases hx with hx | hx
    · exact .inl hx
    rcases hr.blk_lt with h0 | ⟨b, hb, hlt⟩
    · exact .inl h0
    · right
      rcases hat with e | e
      · rw [e]; exact hx
      · rw [e, hb]; intro e; injection e with e; omega
  refine ⟨hs ++ [h], hown, ⟨by simp [h2.1], fun i h' x' q1 q2 => ?_⟩, fun i h' x' q1 q2 => ?_, fun i h' x' q1 q2 => ?_, h5.kept hg (own_two_ne h5 h1 hne)⟩
  · rcases get_snoc h2.1 q1 q2 with ⟨a1, a2⟩ | ⟨rfl, rfl⟩
    · exact ⟨trivial, (h2.2 i h' x' a1 a2).2.grown hg (h3 i h' x' a1 a2)⟩
    · exact ⟨trivial, hr.grown hg hx1⟩
  · rcases get_snoc h2.1 q1 q2 with ⟨a1, a2⟩ | ⟨rfl, rfl⟩
    · exact far (h2.2 i h' x' a1 a2).2 (h3 i h' x' a1 a2)
    · exact far hr hx1
  · rcases get_snoc h2.1 q1 q2 with ⟨a1, a2⟩ | ⟨rfl, rfl⟩
    · exact h4 i h' x' a1 a2
    · exact hx2
theorem Two.grow (h : Two base w s xs e2 k2 v2 n2 cs2) (hne : e2 ≠ 42) (hown : w'.ownsRow base e2 k2 v2' n2' cs2') (hg : w.grownBy w' v2.ownBlock) (hat : v2'.ownBlock = v2.ownBlock ∨ v2'.ownBlock = some w.heap.size) : Two base w' s xs e2 k2 v2' n2' cs2' := by
  obtain ⟨hs, h1, h2, h3, h4, h5⟩ := h
  refine ⟨hs, h1.kept hg (own_two_ne h1 h5 (fun e => hne e.symm)), ⟨h2.1, fun i h' x' q1 q2 => ⟨trivial, (h2.2 i h' x' q1 q2).2.grown hg (h4 i h' x' q1 q2)⟩⟩, h3, fun i h' x' q1 q2 => ?_, hown⟩
  rcases h4 i h' x' q1 q2 with hx | hx
  · exact .inl hx
  rcases (h2.2 i h' x' q1 q2).2.blk_lt with h0 | ⟨b, hb, hlt⟩
  · exact .inl h0
  · right
    rcases hat with e | e
    · rw [e]; exact hx
    · rw [e, hb]; intro e; injection e with e; omega
/-- a new slice lies apart from an older row -/
theorem new_apart {w0 : World} {o : List Pt} {h : PolH} {base' : Nat} {e : TypeId} {k n : Nat} {v : Value} {cs : List Value} (hr : Rd 2 encPt w (psl h) o) (hlow : ∀ q, (psl h).ownBlock = some q → w0.heap.size ≤ q) (ho : w0.ownsRow base' e k v n cs) : o = [] ∨ (psl h).ownBlock ≠ v.ownBlock := by
  rcases hr.blk_lt with h0 | ⟨b, hb, _⟩
  · exact .inl h0
  · right; rw [hb]; intro e; have q1 := (ho.lt b e.symm).2; have q2 := hlow b hb; omega
end
end Go.Proofs.Yteadnlodccnfcaa

/- Two lists of polygons that a call appends to in turn. -/
import Derived.Test.YteadnlodccnfcaaCtrTwo
import Derived.Test.YteadnlodccnfcaaCtrMovM
namespace Go.Proofs.Yteadnlodccnfcaa
set_option linter.unusedSimpArgs false
set_option linter.unusedVariables false
set_option maxRecDepth 100000
open Go.RowKit Planar
/-- the lists s and t of polygons: their own rows, and the polygons' rows, all apart -/
def Mov (base : Nat) (w : World) (s : Value) (xs : List (List Pt)) (t : Value) (ys : List (List Pt)) : Prop :=
  ∃ hs ks : List PolH, w.ownsRow base 42 1 s hs.length (hs.flatMap encPol) ∧ w.ownsRow base 42 1 t ks.length (ks.flatMap encPol) ∧ NestAt psl ptag 2 encPt (fun o : List Pt => o) w hs xs ∧ NestAt psl ptag 2 encPt (fun o : List Pt => o) w ks ys ∧
    (ApartP hs xs s ∧ ApartP hs xs t ∧ ApartP ks ys s ∧ ApartP ks ys t) ∧ (s.ownBlock = none ∨ s.ownBlock ≠ t.ownBlock)
section
variable {base : Nat} {w w' : World} {s s' t : Value} {xs ys : List (List Pt)}
theorem Mov.nil (base : Nat) (w : World) : Mov base w (.slice none 0 0) [] (.slice none 0 0) [] :=
  ⟨[], [], World.ownsRow_nil _ _ _ _, World.ownsRow_nil _ _ _ _, ⟨rfl, fun i h x hh => by simp at hh⟩, ⟨rfl, fun i h x hh => by simp at hh⟩, ⟨fun i h x hh => by simp at hh, fun i h x hh => by simp at hh, fun i h x hh => by simp at hh, fun i h x hh => by simp at hh⟩, .inl rfl⟩
theorem Mov.below (h : Mov base w s xs t ys) (hb : Below w.heap.size w w') : Mov base w' s xs t ys := by
  obtain ⟨hs, ks, h1, h2, h3, h4, h5, h6⟩ := h
  exact ⟨hs, ks, own_below h1 hb, own_below h2 hb, h3.below hb, h4.below hb, h5, h6⟩
theorem Mov.rd1 (h : Mov base w s xs t ys) : RdPols w s xs := by
  obtain ⟨hs, ks, h1, h2, h3, h4, h5, h6⟩ := h
  exact ⟨hs, Rd.own encPol_len h1, h3⟩
theorem Mov.rd2 (h : Mov base w s xs t ys) : RdPols w t ys := by
  obtain ⟨hs, ks, h1, h2, h3, h4, h5, h6⟩ := h
  exact ⟨ks, Rd.own encPol_len h2, h4⟩
theorem Mov.swap (h : Mov base w s xs t ys) : Mov base w t ys s xs := by
  obtain ⟨hs, ks, h1, h2, h3, h4, ⟨a1, a2, a3, a4⟩, h6⟩ := h
  refine ⟨ks, hs, h2, h1, h4, h3, ⟨a4, a3, a2, a1⟩, ?_⟩
  rcases h6 with h6 | h6
  · cases e : t.ownBlock with
    | none => exact .inl rfl
    | some k => exact .inr (by rw [h6]; intro e; cases e)
  · exact .inr (fun e => h6 e.symm)
/-- what lies apart from an old row lies apart from it behind an append -/
theorem apart_far {h : PolH} {x : List Pt} (hr : Rd 2 encPt w (psl h) x) (hx : x = [] ∨ (psl h).ownBlock ≠ s.ownBlock) (hat : s'.ownBlock = s.ownBlock ∨ s'.ownBlock = some w.heap.size) : x = [] ∨ (psl h).ownBlock ≠ s'.ownBlock := by
  rcases hx with hx | hx
  · exact .inl hx
  rcases hr.blk_lt with h0 | ⟨b, hb, hlt⟩
  · exact .inl h0
  · right
    rcases hat with e | e
    · rw [e]; exact hx
    · rw [e, hb]; intro e; injection e with e; omega
theorem Mov.push {hs ks : List PolH} {h : PolH} {x : List Pt} (h1 : w.ownsRow base 42 1 s hs.length (hs.flatMap encPol)) (h2 : w.ownsRow base 42 1 t ks.length (ks.flatMap encPol))
    (h3 : NestAt psl ptag 2 encPt (fun o : List Pt => o) w hs xs) (h4 : NestAt psl ptag 2 encPt (fun o : List Pt => o) w ks ys)
    (h5 : ApartP hs xs s ∧ ApartP hs xs t ∧ ApartP ks ys s ∧ ApartP ks ys t) (h6 : s.ownBlock = none ∨ s.ownBlock ≠ t.ownBlock)
    (hown : w'.ownsRow base 42 1 s' (hs ++ [h]).length ((hs ++ [h]).flatMap encPol)) (hg : w.grownBy w' s.ownBlock) (hat : s'.ownBlock = s.ownBlock ∨ s'.ownBlock = some w.heap.size)
    (hr : Rd 2 encPt w (psl h) x) (hx1 : x = [] ∨ (psl h).ownBlock ≠ s.ownBlock) (hx2 : x = [] ∨ (psl h).ownBlock ≠ t.ownBlock) : Mov base w' s' (xs ++ [x]) t ys := by
  obtain ⟨a1, a2, a3, a4⟩ := h5
  have ht : t.ownBlock = none ∨ t.ownBlock ≠ s.ownBlock := by
    rcases h6 with h6 | h6
    · cases e : t.ownBlock with
      | none => exact .inl rfl
      | some k => exact .inr (by rw [h6]; intro e; cases e)
    · exact .inr (fun e => h6 e.symm)
  refine ⟨hs ++ [h], ks, hown, h2.kept hg ht, ⟨by simp [h3.1], fun i h' x' q1 q2 => ?_⟩, ⟨h4.1, fun i h' x' q1 q2 => ⟨trivial, (h4.2 i h' x' q1 q2).2.grown hg (a3 i h' x' q1 q2)⟩⟩, ⟨fun i h' x' q1 q2 => ?_, fun i h' x' q1 q2 => ?_, fun i h' x' q1 q2 => apart_far (h4.2 i h' x' q1 q2).2 (a3 i h' x' q1 q2) hat, a4⟩, ?_⟩
  · rcases get_snoc h3.1 q1 q2 with ⟨b1, b2⟩ | ⟨rfl, rfl⟩
    · exact ⟨trivial, (h3.2 i h' x' b1 b2).2.grown hg (a1 i h' x' b1 b2)⟩
    · exact ⟨trivial, hr.grown hg hx1⟩
  · rcases get_snoc h3.1 q1 q2 with ⟨b1, b2⟩ | ⟨rfl, rfl⟩
    · exact apart_far (h3.2 i h' x' b1 b2).2 (a1 i h' x' b1 b2) hat
    · exact apart_far hr hx1 hat
  · rcases get_snoc h3.1 q1 q2 with ⟨b1, b2⟩ | ⟨rfl, rfl⟩
    · exact a2 i h' x' b1 b2
    · exact hx2
  · rcases hat with e | e
    · rw [e]; exact h6
    · right; rw [e]; intro e2; have := (h2.lt _ e2.symm).2; omega
end
end Go.Proofs.Yteadnlodccnfcaa

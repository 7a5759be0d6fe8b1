/- The chapter's pieces: what lies in memory. -/
import Derived.Test.YtomndgjnhhchdaaTrkPlc
import Derived.Test.YtomndgjnhhchdaaCopyKit
import Derived.Test.YtomndgjnhhchdaaTrkRefs
namespace Go.Proofs.Ytomndgjnhhchdaa
set_option linter.unusedSimpArgs false
set_option linter.unusedVariables false
open Go.RowKit Trk
theorem ownL_other {base B : Nat} {W W1 : World} {v : Value} {hs : List TrH} {h : TrH} {xs : List Tr} {x : Tr} {row : Option Nat} (o : OwnTL base B W v hs h xs x) (hg : W.grownBy W1 row) (h1 : v.ownBlock = none ∨ v.ownBlock ≠ row)
    (h2 : ∀ (i : Nat) (p : TrH) (y : Tr), hs[i]? = some p → xs[i]? = some y → y.2 = [] ∨ (tsl p).ownBlock ≠ row) (h3 : (tsl h).ownBlock = none ∨ (tsl h).ownBlock ≠ row) : OwnTL base B W1 v hs h xs x :=
  ⟨o.own.kept hg h1, ⟨o.nest.1, fun i p y hp hy => ⟨(o.nest.2 i p y hp hy).1, (o.nest.2 i p y hp hy).2.grown hg (h2 i p y hp hy)⟩⟩, o.far, o.tg, o.inner.kept hg h3, o.low, Nat.le_trans o.top hg.size⟩
/-- tracks built, the last one open; none of their slices lies in the block of us -/
def PcsS (base : Nat) (W : World) (u us : Value) (xs : List Tr) : Prop :=
  (xs = [] ∧ u = .slice none 0 0) ∨ ∃ E x hs h B, xs = E ++ [x] ∧ OwnTL base B W u hs h E x ∧ LowH base hs E ∧
    (∀ (i : Nat) (p : TrH) (y : Tr), hs[i]? = some p → E[i]? = some y → y.2 = [] ∨ (tsl p).ownBlock ≠ us.ownBlock) ∧ ((tsl h).ownBlock = none ∨ (tsl h).ownBlock ≠ us.ownBlock)
theorem PcsS.at {base : Nat} {W : World} {u us : Value} {xs : List Tr} (h : PcsS base W u us xs) : PcsAt base W u xs := by
  rcases h with h | ⟨E, x, hs, h, B, h1, h2, h3, _⟩
  · exact .inl h
  · exact .inr ⟨E, x, hs, h, B, h1, h2, h3⟩
/-- the heads, all closed -/
theorem PcsS.heads {base : Nat} {W : World} {u us : Value} {xs : List Tr} (h : PcsS base W u us xs) :
    ∃ hs : List TrH, W.ownsRow base 24 3 u hs.length (hs.flatMap encTr) ∧ NestAt tsl ttag 2 encPt (fun t : Tr => t.2) W hs xs ∧ (∀ (i : Nat) (h : TrH) (x : Tr), hs[i]? = some h → xs[i]? = some x → x.2 = [] ∨ (tsl h).ownBlock ≠ u.ownBlock) ∧ LowH base hs xs ∧
      (∀ (i : Nat) (p : TrH) (y : Tr), hs[i]? = some p → xs[i]? = some y → y.2 = [] ∨ (tsl p).ownBlock = none ∨ (tsl p).ownBlock ≠ us.ownBlock) := by
  rcases h with ⟨rfl, rfl⟩ | ⟨E, x, hs, h, B, rfl, h2, h3, h4, h5⟩
  · exact ⟨[], World.ownsRow_nil _ _ _ _, ⟨rfl, fun i h x hh => by simp at hh⟩, fun i h x hh => by simp at hh, fun i h x hh => by simp at hh, fun i h x hh => by simp at hh⟩
  · obtain ⟨c1, c2, c3⟩ := h2.closeH encPt_len (by decide)
    have hget : ∀ (i : Nat) (p : TrH) (y : Tr), (hs ++ [h])[i]? = some p → (E ++ [x])[i]? = some y → (hs[i]? = some p ∧ E[i]? = some y) ∨ p = h := fun i p y hp hy => by
      rcases Nat.lt_or_ge i hs.length with hlt | hge
      · rw [List.getElem?_append_left hlt] at hp
        rw [List.getElem?_append_left (by rw [← h2.nest.1]; exact hlt)] at hy
        exact .inl ⟨hp, hy⟩
      · rw [List.getElem?_append_right hge] at hp
        have e0 : i - hs.length = 0 := by
          rcases Nat.eq_zero_or_pos (i - hs.length) with h0 | h0
          · exact h0
          · rw [List.getElem?_eq_none (by simp; omega)] at hp; cases hp
        rw [e0] at hp
        exact .inr (by simpa using hp.symm)
    refine ⟨hs ++ [h], c1, c2, c3, fun i p y hp hy => ?_, fun i p y hp hy => ?_⟩
    · rcases hget i p y hp hy with ⟨a, b⟩ | rfl
      · exact h3 i p y a b
      · right; exact fun b hb => Nat.le_trans h2.low (h2.inner.lt b hb).1
    · rcases hget i p y hp hy with ⟨a, b⟩ | rfl
      · exact (h4 i p y a b).imp id .inr
      · exact .inr h5
theorem fresh_ne {W : World} {v : Value} {l : List Cl} {us us' : Value} (hr : Rd 2 encPt W v l) (h : l = [] ∨ v.ownBlock ≠ us.ownBlock) (hu : us'.ownBlock = us.ownBlock ∨ us'.ownBlock = some W.heap.size) : l = [] ∨ v.ownBlock ≠ us'.ownBlock := by
  rcases h with h | h
  · exact .inl h
  rcases hr.blk_lt with h0 | ⟨b, hb, hlt⟩
  · exact .inl h0
  · right
    rcases hu with hu | hu
    · rw [hu]; exact h
    · rw [hu, hb]; intro e; injection e with e; omega
theorem none_or_ne (o : Option Nat) : o = none ∨ o ≠ none := by cases o <;> simp
theorem PcsS.turn {base b0 n : Nat} {W W1 : World} {u us us' : Value} {xs : List Tr} {S : List Value} {row : Option Nat} (h : PcsS base W u us xs) (hus : W.ownsRow b0 31 2 us n S) (hg : W.grownBy W1 row) (hr : row = none ∨ row = us.ownBlock)
    (hu : us'.ownBlock = us.ownBlock ∨ us'.ownBlock = some W.heap.size) : PcsS base W1 u us' xs := by
  rcases h with h | ⟨E, x, hs, h, B, h1, h2, h3, h4, h5⟩
  · exact .inl h
  · refine .inr ⟨E, x, hs, h, B, h1, ownL_other h2 hg ?_ (fun i p y hp hy => ?_) ?_, h3, fun i p y hp hy => fresh_ne (h2.nest.2 i p y hp hy).2 (h4 i p y hp hy) hu, ?_⟩
    · rcases hr with rfl | rfl
      · exact none_or_ne _
      · exact own_own_ne h2.own hus (by decide)
    · rcases hr with rfl | rfl
      · rcases (h2.nest.2 i p y hp hy).2.blk_lt with h0 | ⟨b, hb, _⟩
        · exact .inl h0
        · right; rw [hb]; simp
      · exact h4 i p y hp hy
    · rcases hr with rfl | rfl
      · exact none_or_ne _
      · exact h5
    · rcases hu with hu | hu
      · rw [hu]; exact h5
      · rw [hu]
        cases hb : (tsl h).ownBlock with
        | none => left; rfl
        | some b =>
          right
          have := (h2.inner.lt b hb).2
          intro e; injection e with e; omega
/-- what else must last while the pieces are built -/
structure OthB (W0 W1 : World) (us0 : Value) (g0 : Nat) (tc : Array Value) (us : Value) (y : World) : Prop where
  bt : Blk y g0 24 tc
  lo : W0.heap.size ≤ g0
  g1 : g0 < W1.heap.size
  gr : W1.grownBy y us0.ownBlock
  hu : us.ownBlock = us0.ownBlock ∨ ∀ b, us.ownBlock = some b → W1.heap.size ≤ b
  nt : us.ownBlock ≠ some g0
  kw : Below W0.heap.size W0 y
theorem grownBy_belowN {W W' y : World} {B : Nat} {row : Option Nat} (hk : Below B W y) (hg : y.grownBy W' row) (hr : ∀ b, row = some b → B ≤ b) (hB : B ≤ y.heap.size) : Below B W W' := by
  cases row with
  | none => exact hk.trans ⟨hg.os, hg.tape, hg.output, hg.size, fun i hi => hg.block i (by omega) (by simp)⟩
  | some p => exact hk.trans (grownBy_below hg hB (hr p rfl))
theorem OthB.turn {W0 W1 y y' : World} {us0 us us' : Value} {g0 n : Nat} {tc : Array Value} {S : List Value} {row : Option Nat} (h : OthB W0 W1 us0 g0 tc us y) (hus : y.ownsRow W0.heap.size 31 2 us n S) (hg : y.grownBy y' row) (hr : row = none ∨ row = us.ownBlock)
    (hu : us'.ownBlock = us.ownBlock ∨ us'.ownBlock = some y.heap.size) : OthB W0 W1 us0 g0 tc us' y' := by
  have hlt := h.bt.lt
  have h1 := h.gr.size
  have hrow : ∀ b, row = some b → us.ownBlock = some b := fun b hb => by
    rcases hr with rfl | rfl
    · cases hb
    · exact hb
  refine ⟨h.bt.grown hg ?_, h.lo, h.g1, ⟨hg.os.trans h.gr.os, hg.tape.trans h.gr.tape, hg.output.trans h.gr.output, Nat.le_trans h1 hg.size, fun i hi hne => ?_⟩, ?_, ?_, grownBy_belowN h.kw hg (fun b hb => (hus.lt b (hrow b hb)).1) h.kw.size⟩
  · intro e; exact h.nt (hrow g0 e.symm)
  · refine (hg.block i (by omega) (fun e => ?_)).trans (h.gr.block i hi hne)
    have e2 := hrow i e.symm
    rcases h.hu with h3 | h3
    · exact hne (by rw [← h3, e2])
    · have := h3 i e2; omega
  · rcases hu with hu | hu
    · rw [hu]; exact h.hu
    · right; intro b hb; rw [hu] at hb; injection hb with hb; omega
  · rcases hu with hu | hu
    · rw [hu]; exact h.nt
    · rw [hu]; intro e; injection e with e; omega
/-- a step that changes a row of the tracks, or grows it -/
theorem OthB.row {W0 W1 y y' : World} {us0 us : Value} {g0 : Nat} {tc : Array Value} {row : Option Nat} (h : OthB W0 W1 us0 g0 tc us y) (hg : y.grownBy y' row) (hr : ∀ b, row = some b → W1.heap.size ≤ b) (hW : W0.heap.size ≤ W1.heap.size) : OthB W0 W1 us0 g0 tc us y' := by
  have h1 := h.gr.size
  have := h.g1
  refine ⟨h.bt.grown hg ?_, h.lo, h.g1, ⟨hg.os.trans h.gr.os, hg.tape.trans h.gr.tape, hg.output.trans h.gr.output, Nat.le_trans h1 hg.size, fun i hi hne => ?_⟩, h.hu, h.nt, grownBy_belowN h.kw hg (fun b hb => Nat.le_trans hW (hr b hb)) h.kw.size⟩
  · intro e; have := hr g0 e.symm; omega
  · refine (hg.block i (by omega) (fun e => ?_)).trans (h.gr.block i hi hne)
    have := hr i e.symm; omega
end Go.Proofs.Ytomndgjnhhchdaa

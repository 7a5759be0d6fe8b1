/- A block of memory that is known whole. -/
import Derived.Test.YtfoedkdmckhihaaApp
namespace Go.Proofs.Ytfoedkdmckhihaa
set_option linter.unusedSimpArgs false
set_option linter.unusedVariables false
open Go.RowKit
/-- the elements of a slice whose address is named already -/
theorem Rd.op {α : Type} {k : Nat} {enc : α → List Value} {W : World} {A : Option Addr} {n cap : Nat} {xs : List α} (h : Rd k enc W (.slice A n cap) xs) : ∀ (i : Nat) (x : α), xs[i]? = some x → ∃ b off, A = some ⟨b, off, none⟩ ∧ b < W.heap.size ∧
    ∀ (i : Nat) (x : α), xs[i]? = some x → ∀ (j : Nat) (u : Value), (enc x)[j]? = some u → W.cell? ⟨b, off + i * k + j, none⟩ = some u := by
  obtain ⟨A', cap', hv, _, ho⟩ := h.open_
  injection hv with h1
  subst h1
  exact ho
def Blk (w : World) (g : Nat) (t : TypeId) (cs : Array Value) : Prop := w.heap[g]? = some (.cells cs t (0, 0))
section
variable {w w' : World} {g : Nat} {t : TypeId} {cs : Array Value}
theorem Blk.lt (h : Blk w g t cs) : g < w.heap.size := (Array.getElem?_eq_some_iff.1 h).1
theorem Blk.cell (h : Blk w g t cs) (i : Nat) : w.cell? ⟨g, i, none⟩ = cs[i]? := cell_of_row w g i cs t (0, 0) h
theorem Blk.frozen (h : Blk w g t cs) (i : Nat) : w.frozen? ⟨g, i, none⟩ = false := by
  unfold Blk at h
  simp [World.frozen?, h]
theorem Blk.new (w : World) (t : TypeId) (cs : Array Value) : Blk (w.alloc (.cells cs t)) w.heap.size t cs := heap_alloc_new w _
theorem Blk.below (h : Blk w g t cs) (hb : Below w.heap.size w w') : Blk w' g t cs := (hb.block g h.lt).trans h
theorem Blk.grown {row : Option Nat} (h : Blk w g t cs) (hb : w.grownBy w' row) (hg : some g ≠ row) : Blk w' g t cs := (hb.block g h.lt hg).trans h
theorem Blk.set_ (h : Blk w g t cs) (i : Nat) (u : Value) : Blk (w.setCell ⟨g, i, none⟩ u) g t (cs.setIfInBounds i u) := by
  unfold Blk at h ⊢
  simp [World.setCell, Array.getElem?_modify, h]
theorem Blk.far (h : Blk w g t cs) {p : Addr} (hp : g ≠ p.block) (u : Value) : Blk (w.setCell p u) g t cs := (Below.heap_setCell w p u g hp).trans h
theorem Blk.ne_ {g' : Nat} {t' : TypeId} {cs' : Array Value} (h : Blk w g t cs) (h' : Blk w g' t' cs') (hne : t ≠ t') : g ≠ g' := by
  rintro rfl
  have := (show some _ = some _ from h.symm.trans h')
  injection this with e
  injection e with _ e
  exact hne e
/-- a row of elements of another type lies elsewhere -/
theorem own_ne {base : Nat} {e : TypeId} {size n : Nat} {v : Value} {xs : List Value} (h : w.ownsRow base e size v n xs) (hg : Blk w g t cs) (hne : e ≠ t) : v.ownBlock ≠ some g := by
  rcases h.2 with ⟨rfl, _⟩ | ⟨g', cap, cur, rfl, _, hh, _⟩
  · simp [Value.ownBlock]
  · intro he
    have : g' = g := by simpa [Value.ownBlock] using he
    subst this
    exact Blk.ne_ (t := e) hh hg hne rfl
theorem own_grownBy {base : Nat} {e : TypeId} {size n : Nat} {v : Value} {xs : List Value} {p : Nat} (h : w.ownsRow base e size v n xs) (hg : w.grownBy w' (some p)) (hne : v.ownBlock ≠ some p) : w'.ownsRow base e size v n xs :=
  h.kept hg (.inr hne)
/-- behind an append onto a row of another type -/
theorem blk_app {w1 : World} {v : Value} {base n size : Nat} {e : TypeId} {xs : List Value} (hg : w'.grownBy w1 v.ownBlock) (hne : e ≠ t) (hb : Below w.heap.size w w') (hown : w'.ownsRow base e size v n xs) (h : Blk w g t cs) : Blk w1 g t cs :=
  (h.below hb).grown hg (Ne.symm (own_ne hown (h.below hb) hne))
theorem grownBy_below {p B : Nat} (h : w.grownBy w' (some p)) (hB : B ≤ w.heap.size) (hp : B ≤ p) : Below B w w' :=
  (Below.refl _ _).grown h hB (fun k e => by injection e with e; omega)
theorem below_grownBy {row : Option Nat} (h : Below w.heap.size w w') : w.grownBy w' row := ⟨h.os, h.tape, h.output, h.size, fun k hk _ => h.block k hk⟩
theorem grownBy_trans {w'' : World} {row : Option Nat} (h : w.grownBy w' row) (h' : w'.grownBy w'' row) : w.grownBy w'' row :=
  ⟨h'.os.trans h.os, h'.tape.trans h.tape, h'.output.trans h.output, Nat.le_trans h.size h'.size, fun k hk hr => (h'.block k (Nat.lt_of_lt_of_le hk h.size) hr).trans (h.block k hk hr)⟩
theorem grownBy_set {p : Addr} (u : Value) : w.grownBy (w.setCell p u) (some p.block) :=
  ⟨rfl, rfl, rfl, by simp [World.setCell], fun k hk hr => Below.heap_setCell w p u k (fun e => hr (by rw [e]))⟩
end
end Go.Proofs.Ytfoedkdmckhihaa

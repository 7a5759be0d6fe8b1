/- Small words for walks: a world that has grown beyond another one, and calls that return a value and leave old memory alone. -/
import Derived.WalkKit
import Derived.WalkSpells
import Derived.WalkLawsBesides
import Derived.BigQuiet
namespace Go.Proofs.Ytfoedkdmckhihaa
set_option linter.unusedSimpArgs false
set_option linter.unusedVariables false
open Go.RowKit

theorem ret_int {k : IntKind} {a b : Int} (h : a = b) : Ending.returned (.int k a) = .returned (.int k b) := by rw [h]
theorem ret_bool {a b : Bool} (h : a = b) : Ending.returned (.bool a) = .returned (.bool b) := by rw [h]

/-- a world in which all that lies in W is as it was -/
def Kin (W : World) := { x : World // Below W.heap.size W x }
abbrev Kin.wd {W : World} (z : Kin W) : World := Subtype.val z
instance (W : World) : Nonempty (Kin W) := ⟨⟨W, Below.refl _ _⟩⟩
theorem below_drewN {B : Nat} {a w : World} (h : Below B a w) (n : Nat) : Below B a (w.drewN n) := ⟨h.os, h.tape, h.output, h.size, h.block⟩
section
variable {W : World}
theorem Kin.cell (x : Kin W) {b o : Nat} (h : b < W.heap.size) : x.1.cell? ⟨b, o, none⟩ = W.cell? ⟨b, o, none⟩ := x.2.cell (p := ⟨b, o, none⟩) h
theorem Kin.frozen (x : Kin W) {b o : Nat} (h : b < W.heap.size) : x.1.frozen? ⟨b, o, none⟩ = W.frozen? ⟨b, o, none⟩ := x.2.frozen (p := ⟨b, o, none⟩) h
theorem Kin.below {W0 : World} (x : Kin W) (h : Below W0.heap.size W0 W) : Below W0.heap.size W0 x.1 := h.trans (x.2.mono h.size)
def Kin.ofBelow {w : World} (h : Below W.heap.size W w) : Kin W := ⟨w, h⟩
/-- a call that leaves old memory alone, in a world grown out of W -/
theorem Kin.call {P : Program} {f : FuncId} {args : Array Value} {R : Ending → World → Prop} (x : Kin W)
    (h : Calls P f args x.1 fun e w' => R e w' ∧ Below x.1.heap.size x.1 w') : Calls P f args x.1 fun e w' => ∃ z : Kin W, R e z.1 ∧ z.1 = w' :=
  h.mono fun _ w' ⟨he, hb⟩ => ⟨⟨w', x.2.trans (hb.mono x.2.size)⟩, he, rfl⟩
theorem Kin.call0 {P : Program} {f : FuncId} {args : Array Value} {R : Ending → World → Prop}
    (h : Calls P f args W fun e w' => R e w' ∧ Below W.heap.size W w') : Calls P f args W fun e w' => ∃ z : Kin W, R e z.1 ∧ z.1 = w' :=
  h.mono fun _ w' ⟨he, hb⟩ => ⟨⟨w', hb⟩, he, rfl⟩
/-- the same, inside a region that draws its order -/
theorem Kin.quiet {P : Program} {f : FuncId} {args : Array Value} {v : Value} (x : Kin W)
    (h : Calls P f args x.1 fun e w' => e = .returned v ∧ Below x.1.heap.size x.1 w') : Calls P f args x.1 fun e w' => e = .returned v ∧ ∃ z : Kin W, w' = z.1 :=
  h.mono fun _ w' ⟨he, hb⟩ => ⟨he, ⟨w', x.2.trans (hb.mono x.2.size)⟩, rfl⟩
theorem wp_region_kin0 {P : Program} {id : Nat} {Q : Exit → Act → World → Prop} {a : Act} {l : List Oper} (hm : P.follows .mixedOrders = true) (hB : Region.lexB .any l.toArray = true)
    (h : wpQuiet P l.toArray (fun w' => ∃ z : Kin W, w' = z.1) (fun a' => ∀ w', (∃ z : Kin W, w' = z.1) → Q .normal a' w') l a) : (Code.region id l.toArray true).wp P Q a W :=
  wp_region_quiet (C := fun w' => ∃ z : Kin W, w' = z.1) hm hB ⟨⟨W.drew, (Below.refl _ _).drew⟩, rfl⟩ (by simpa using h)
theorem wp_region_kin {P : Program} {id : Nat} {Q : Exit → Act → World → Prop} {a : Act} {l : List Oper} (x : Kin W) (hm : P.follows .mixedOrders = true) (hB : Region.lexB .any l.toArray = true)
    (h : wpQuiet P l.toArray (fun w' => ∃ z : Kin W, w' = z.1) (fun a' => ∀ w', (∃ z : Kin W, w' = z.1) → Q .normal a' w') l a) : (Code.region id l.toArray true).wp P Q a x.1 :=
  wp_region_quiet (C := fun w' => ∃ z : Kin W, w' = z.1) hm hB ⟨⟨x.1.drew, x.2.drew⟩, rfl⟩ (by simpa using h)
end
theorem Kin.le {W : World} (z : Kin W) {n : Nat} (h : n ≤ W.heap.size) : n ≤ z.1.heap.size := Nat.le_trans h z.2.size
theorem le_alloc {w : World} {n : Nat} (h : n ≤ w.heap.size) (o : Obj) : n ≤ (w.alloc o).heap.size := by simp only [World.size_alloc]; omega
theorem le_drew {w : World} {n : Nat} (h : n ≤ w.heap.size) : n ≤ w.drew.heap.size := h
theorem Kin.lt {W : World} (z : Kin W) {n : Nat} (h : n < W.heap.size) : n < z.1.heap.size := Nat.lt_of_lt_of_le h z.2.size
/-- a slice that reads as the list xs; each element takes k cells, 'enc x'; all of it lies in W -/
def Rd {α : Type} (k : Nat) (enc : α → List Value) (W : World) (v : Value) (xs : List α) : Prop :=
  ∃ A cap, v = .slice A xs.length cap ∧ xs.length ≤ cap ∧ (xs = [] ∨ ∃ b off, A = some ⟨b, off, none⟩ ∧ b < W.heap.size ∧
    ∀ i x, xs[i]? = some x → ∀ j u, (enc x)[j]? = some u → W.cell? ⟨b, off + i * k + j, none⟩ = some u)
section
variable {α : Type} {k : Nat} {enc : α → List Value} {W W' : World} {v : Value} {xs : List α}
theorem Rd.below (h : Rd k enc W v xs) (hb : Below W.heap.size W W') : Rd k enc W' v xs := by
  obtain ⟨A, cap, hv, hc, h⟩ := h
  refine ⟨A, cap, hv, hc, ?_⟩
  rcases h with h | ⟨b, off, hA, hlt, hcell⟩
  · exact .inl h
  · exact .inr ⟨b, off, hA, Nat.lt_of_lt_of_le hlt hb.size, fun i x hx j u hu => (hb.cell (p := ⟨b, _, none⟩) hlt).trans (hcell i x hx j u hu)⟩
theorem Rd.kin (h : Rd k enc W v xs) (z : Kin W) : Rd k enc z.1 v xs := h.below z.2
theorem Rd.nil : Rd k enc W (.slice none 0 0) [] := ⟨none, 0, rfl, Nat.le_refl _, .inl rfl⟩
/-- what the call owns stays owned in a grown world -/
theorem own_below {base : Nat} {e : TypeId} {size n : Nat} {cs : List Value} (h : W.ownsRow base e size v n cs) (hb : Below W.heap.size W W') : W'.ownsRow base e size v n cs :=
  h.kept (row := none) ⟨hb.os, hb.tape, hb.output, hb.size, fun i hi _ => hb.block i hi⟩ (by cases hv : v.ownBlock <;> simp)
theorem flat_get (hk : ∀ x, (enc x).length = k) : ∀ (xs : List α) (i : Nat) (x : α), xs[i]? = some x → ∀ (j : Nat) (u : Value), (enc x)[j]? = some u → (xs.flatMap enc)[i * k + j]? = some u
  | [], i, x, hx, _, _, _ => by simp at hx
  | y :: xs, 0, x, hx, j, u, hu => by
    simp at hx; subst hx
    have : j < (enc y).length := (List.getElem?_eq_some_iff.1 hu).1
    simp only [List.flatMap_cons, Nat.zero_mul, Nat.zero_add]
    rw [List.getElem?_append_left this]; exact hu
  | y :: xs, i + 1, x, hx, j, u, hu => by
    simp at hx
    have := flat_get hk xs i x hx j u hu
    simp only [List.flatMap_cons]
    rw [List.getElem?_append_right (by rw [hk, Nat.add_mul]; omega), hk]
    rw [show (i + 1) * k + j - k = i * k + j from by rw [Nat.add_mul]; omega]
    exact this
theorem flat_len (hk : ∀ x, (enc x).length = k) (xs : List α) : (xs.flatMap enc).length = xs.length * k := by
  induction xs with
  | nil => simp
  | cons y xs ih => simp [hk, ih, Nat.add_mul]; omega
/-- what the call owns reads as a list -/
theorem Rd.own {base : Nat} {e : TypeId} (hk : ∀ x, (enc x).length = k) (h : W.ownsRow base e k v xs.length (xs.flatMap enc)) : Rd k enc W v xs := by
  rcases h.2 with ⟨rfl, h0⟩ | ⟨g, cap, cur, rfl, _, hg, hn, _, _, _⟩
  · exact ⟨none, 0, by rw [h0], by omega, .inl (List.eq_nil_of_length_eq_zero h0)⟩
  · refine ⟨_, cap, rfl, hn, ?_⟩
    rcases xs with _ | ⟨x, xs⟩
    · exact .inl rfl
    · refine .inr ⟨g, 0, rfl, (Array.getElem?_eq_some_iff.1 hg).1, fun i y hy j u hu => ?_⟩
      have := h.cells (g := g) rfl (i * k + j) u (flat_get hk _ i y hy j u hu)
      rw [Nat.zero_add]
      have e : ((⟨g, 0, none⟩ : Addr).add (i * k + j)) = ⟨g, i * k + j, none⟩ := by unfold Addr.add; split <;> simp_all
      rwa [e] at this
/-- nil, empty or not: the address, if there is an element -/
theorem Rd.open_ (h : Rd k enc W v xs) : ∃ (A : Option Addr) (cap : Nat), v = .slice A xs.length cap ∧ xs.length ≤ cap ∧ (∀ (i : Nat) (x : α), xs[i]? = some x → ∃ b off, A = some ⟨b, off, none⟩ ∧ b < W.heap.size ∧
    ∀ (i : Nat) (x : α), xs[i]? = some x → ∀ (j : Nat) (u : Value), (enc x)[j]? = some u → W.cell? ⟨b, off + i * k + j, none⟩ = some u) := by
  obtain ⟨A, cap, hv, hc, h⟩ := h
  refine ⟨A, cap, hv, hc, fun i x hx => ?_⟩
  rcases h with rfl | h
  · simp at hx
  · exact h
end
/-- inside a quiet region: an operation's guard that is not decided: two ways -/
theorem wpQuiet_guard {P : Program} {ops : Array Oper} {C : World → Prop} {Q : Act → Prop} {o : Oper} {rest : List Oper} {a : Act} {j : Nat} {b : Bool} {oj : Oper} {d : Tmp} {e : Bool}
    (_hg : o.guard = some (j, b)) (_hj : ops[j]? = some oj) (_hd : oj.dst = some d) (hv : a.tmps[d]? = some (.bool e))
    (ht : e = true → wpQuiet P ops C Q (o :: rest) (a.put (some d) (.bool true))) (hf : e = false → wpQuiet P ops C Q (o :: rest) (a.put (some d) (.bool false))) : wpQuiet P ops C Q (o :: rest) a := by
  have hsame : ∀ t, e = t → a.put (some d) (.bool t) = a := by
    intro t ht
    subst ht
    obtain ⟨tm, df⟩ := a
    simp only [Act.put, Act.mk.injEq, and_true]
    apply Array.ext
    · simp
    · intro i h1 h2
      rw [Array.getElem_setIfInBounds]
      split
      · rename_i h
        subst h
        simp only at hv
        rw [Array.getElem?_eq_getElem h2] at hv
        exact (Option.some.inj hv).symm
      · rfl
  cases e
  · rw [← hsame false rfl]; exact hf rfl
  · rw [← hsame true rfl]; exact ht rfl
/-- a product's bounds -/
theorem mul_bd {x y M N : Int} (hx : -M ≤ x ∧ x ≤ M) (hy : -N ≤ y ∧ y ≤ N) : -(M * N) ≤ x * y ∧ x * y ≤ M * N := by
  have h1 := Int.mul_nonneg (a := M - x) (b := N + y) (by omega) (by omega)
  have h2 := Int.mul_nonneg (a := M + x) (b := N - y) (by omega) (by omega)
  have h3 := Int.mul_nonneg (a := M + x) (b := N + y) (by omega) (by omega)
  have h4 := Int.mul_nonneg (a := M - x) (b := N - y) (by omega) (by omega)
  constructor <;> grind
end Go.Proofs.Ytfoedkdmckhihaa

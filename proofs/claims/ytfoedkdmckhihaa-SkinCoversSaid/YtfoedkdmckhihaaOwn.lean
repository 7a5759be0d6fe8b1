/- Small words for walks that append to a slice of their own. -/
import Derived.Test.YtfoedkdmckhihaaKit
import Derived.Test.YtfoedkdmckhihaaRows
import Derived.Lib.Hide
import Derived.Test.YtfoedkdmckhihaaQTail
namespace Go.Proofs.Ytfoedkdmckhihaa
set_option linter.unusedSimpArgs false
set_option linter.unusedVariables false
open Go.RowKit
/-- a call that appends to a row of its own leaves old memory alone -/
theorem own_grown {B : Nat} {W0 w w1 : World} {base : Nat} {e : TypeId} {size n : Nat} {v : Value} {xs : List Value} (hB : Below B W0 w) (hown : w.ownsRow base e size v n xs) (hg : w.grownBy w1 v.ownBlock) (h1 : B ≤ base) (h2 : B ≤ w.heap.size) : Below B W0 w1 :=
  hB.grown hg h2 (fun k e => by have := (hown.lt k e).1; omega)
theorem cell2_new (w : World) (x y : Value) (t : TypeId) : ∀ j u, [x, y][j]? = some u → (w.alloc (.cells #[x, y] t)).cell? ((⟨w.heap.size, 0, none⟩ : Addr).add j) = some u := by
  intro j u hj
  match j, hj with
  | 0, hj => simp at hj; subst hj; simp [Addr.add]
  | 1, hj => simp at hj; subst hj; simp [Addr.add]
  | j + 2, hj => simp at hj
theorem one2 {k1 k2 : IntKind} (x y : Int) : ∀ u ∈ [Value.int k1 x, Value.int k2 y], u.oneCell' = true := by
  intro u hu; simp at hu; rcases hu with rfl | rfl <;> rfl
section
variable {W : World}
theorem Kin.lt0 (x : Kin W) {b : Nat} (h : b < W.heap.size) : b < x.1.heap.size := Nat.lt_of_lt_of_le h x.2.size
theorem Kin.lt1 (x : Kin W) {b : Nat} (h : b < W.heap.size) : b < x.1.heap.size + 1 := Nat.lt_succ_of_lt (x.lt0 h)
theorem Kin.lt2 (x : Kin W) {b : Nat} (h : b < W.heap.size) : b < x.1.heap.size + 1 + 1 := Nat.lt_succ_of_lt (x.lt1 h)
theorem Kin.lt3 (x : Kin W) {b : Nat} (h : b < W.heap.size) : b < x.1.heap.size + 1 + 1 + 1 := Nat.lt_succ_of_lt (x.lt2 h)
end
theorem cell1_new (w : World) (x : Value) (t : TypeId) : ∀ j u, [x][j]? = some u → (w.alloc (.cells #[x] t)).cell? ((⟨w.heap.size, 0, none⟩ : Addr).add j) = some u := by
  intro j u hj
  match j, hj with
  | 0, hj => simp at hj; subst hj; simp [Addr.add]
  | j + 1, hj => simp at hj
theorem one1 {k1 : IntKind} (x : Int) : ∀ u ∈ [Value.int k1 x], u.oneCell' = true := by
  intro u hu; simp at hu; rcases hu with rfl; rfl
/-- a region that draws, in a world grown out of W -/
theorem wp_region_kinK {W w : World} {P : Program} {id : Nat} {Q : Exit → Act → World → Prop} {a : Act} {l : List Oper} (hm : P.follows .mixedOrders = true) (hB : Region.lexB .any l.toArray = true) (hw : Below W.heap.size W w)
    (h : wpQuiet P l.toArray (fun w' => ∃ z : Kin w, w' = z.1) (fun a' => ∀ zq : Kin W, Below w.heap.size w zq.1 → Q .normal a' zq.1) l a) : (Code.region id l.toArray true).wp P Q a w := by
  refine wp_region_kin0 hm hB ?_
  have : (fun a' => ∀ zq : Kin W, Below w.heap.size w zq.1 → Q .normal a' zq.1) = (fun a' => ∀ w', (∃ z : Kin w, w' = z.1) → Q .normal a' w') := by
    funext a'
    apply propext
    constructor
    · rintro h w' ⟨z, rfl⟩; exact h ⟨z.1, hw.trans (z.2.mono hw.size)⟩ z.2
    · intro h zq hz; exact h _ ⟨⟨zq.1, hz⟩, rfl⟩
  rw [← this]; exact h
theorem wp_region_tailK {W w : World} {P : Program} {id : Nat} {Q : Exit → Act → World → Prop} {a : Act} {l : List Oper} (n : Nat) (hm : P.follows .mixedOrders = true) (hB : Region.lexTailB .any l.toArray n = true) (hw : Below W.heap.size W w)
    (h : wpQuiet P l.toArray (fun w' => ∃ z : Kin w, w' = z.1) (fun a' => ∀ zq : Kin W, Below w.heap.size w zq.1 → wpList P l.toArray Q (l.drop n) a' zq.1) (l.take n) a) : (Code.region id l.toArray true).wp P Q a w := by
  refine wp_region_kin_tail n hm hB ?_
  have : (fun a' => ∀ zq : Kin W, Below w.heap.size w zq.1 → wpList P l.toArray Q (l.drop n) a' zq.1) = (fun a' => ∀ w', (∃ z : Kin w, w' = z.1) → wpList P l.toArray Q (l.drop n) a' w') := by
    funext a'
    apply propext
    constructor
    · rintro h w' ⟨z, rfl⟩; exact h ⟨z.1, hw.trans (z.2.mono hw.size)⟩ z.2
    · intro h zq hz; exact h _ ⟨⟨zq.1, hz⟩, rfl⟩
  rw [← this]; exact h
/-- a call that changes blocks from a base on alone -/
theorem Kin.callB {W w : World} {P : Program} {f : FuncId} {args : Array Value} {R : Ending → World → Prop} (hw : Below W.heap.size W w)
    (h : Calls P f args w fun e w' => R e w' ∧ Below W.heap.size w w') : Calls P f args w fun e w' => ∃ z : Kin W, R e z.1 ∧ z.1 = w' :=
  h.mono fun _ w' ⟨he, hb⟩ => ⟨⟨w', hw.trans hb⟩, he, rfl⟩
theorem run_mkf (P : Program) (fn : Fn) (first cap : Array Value) (w : World) : (Instr.makeFunc fn first cap).run P w = .ok (.func fn first cap) w := rfl
/-- a call, in a world grown out of W: the world behind it has grown out of W too, and out of the one that it got -/
theorem Kin.callK {W w : World} {P : Program} {f : FuncId} {args : Array Value} {R : Ending → World → Prop} (hw : Below W.heap.size W w)
    (h : Calls P f args w fun e w' => R e w' ∧ Below w.heap.size w w') : Calls P f args w fun e w' => ∃ z : Kin W, R e z.1 ∧ Below w.heap.size w z.1 ∧ z.1 = w' :=
  h.mono fun _ w' ⟨he, hb⟩ => ⟨⟨w', hw.trans (hb.mono hw.size)⟩, he, hb, rfl⟩
def encI (x : Int) : List Value := [.int .i64 x]
theorem encI_len (x : Int) : (encI x).length = 1 := rfl
theorem infoInt : (Try.prog.info? 3).map (fun i => (i.zero, i.size, i.bytes)) = some (some (.int .i64 0), 1, 8) := by kernel_rfl
theorem max_if (a b : Int) : (if a < b then b else a) = max a b := by split <;> omega
end Go.Proofs.Ytfoedkdmckhihaa

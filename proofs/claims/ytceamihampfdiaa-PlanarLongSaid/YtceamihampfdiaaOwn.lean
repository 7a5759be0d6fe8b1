/- Small words for walks that append to a slice of their own. -/
import Derived.Test.YtceamihampfdiaaKit
namespace Go.Proofs.Ytceamihampfdiaa
set_option linter.unusedSimpArgs false
set_option linter.unusedVariables false
open Go.RowKit
/-- a call that appends to a row of its own leaves old memory alone -/
theorem own_grown {B : Nat} {W0 w w1 : World} {base : Nat} {e : TypeId} {size n : Nat} {v : Value} {xs : List Value} (hB : Below B W0 w) (hown : w.ownsRow base e size v n xs) (hg : w.grownBy w1 v.ownBlock) (h1 : B ≤ base) (h2 : B ≤ w.heap.size) : Below B W0 w1 :=
  hB.grown hg h2 (fun k e => by have := (hown.lt k e).1; omega)
theorem cell2_new (w : World) (x y : Value) (t : TypeId) : ∀ j u, [x, y][j]? = some u → (w.alloc (.cells #[x, y] t)).cell? ((⟨w.heap.size, 0, none⟩ : Addr).add j) = some u := by
  intro j u hj
  match j, hj with
  | 0, hj => simp at hj; subst hj; simp [Addr.add]
  | 1, hj => simp at hj; subst hj; simp [Addr.add]
  | j + 2, hj => simp at hj
theorem one2 {k1 k2 : IntKind} (x y : Int) : ∀ u ∈ [Value.int k1 x, Value.int k2 y], u.oneCell' = true := by
  intro u hu; simp at hu; rcases hu with rfl | rfl <;> rfl
theorem max_if (a b : Int) : (if a < b then b else a) = max a b := by split <;> omega
end Go.Proofs.Ytceamihampfdiaa

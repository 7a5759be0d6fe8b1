/- Lemmas: HatB. -/
import Derived.RangeFuncNested
import Derived.RangeFuncBound
import Derived.RangeFuncCalls
import Derived.RangeFuncLeaves
import Derived.Shelf.Abstract
import Derived.Shelf.RegionOpen
import Derived.WalkKit
import Derived.OwnWalkIn
import Derived.TacticsInMore
import Derived.LoopNIn
import Derived.LoopN
import Derived.LoopIn
import Derived.Test.YtneelidbgigehaaGreatT01
/- The library's iterator over a slice from its end, at one run: its contract. -/
namespace Go.Proofs.YtneelidbgigehaaGreat
set_option linter.unusedSimpArgs false
set_option linter.unusedVariables false
set_option maxRecDepth 100000
open Go Go.RowKit Go.Shelf
attribute [local go_sem] Oper.semAt_some
set_option maxHeartbeats 4000000 in
theorem back_stops (n : Nat) (hn : 1 ≤ n) (Bs b off cap : Nat) (x y : Int) (w : World) (hBs : w.cell? ⟨Bs, 0, none⟩ = some (.slice (some ⟨b, off, none⟩) 1 cap)) (h0 : w.cell? ⟨b, off, none⟩ = some (.int .i64 x)) (h1 : w.cell? ⟨b, off + 1, none⟩ = some (.int .i64 y)) (hl : Bs < w.heap.size) (hb : b < w.heap.size) :
    SeqStopsK Fence.wide n Tryz.prog 107 #[.pointer (some ⟨Bs, 0, none⟩)] (fun _ : Unit => #[.int .i64 0, .agg #[.int .i64 x, .int .i64 y]]) (fun _ _ => True) (fun xs => xs = [()]) (fun pre => pre = [()]) 1 w := by
  intro l J Jx W hW hJ hJx hY hJ0
  have hBs := (hW.cell (p := ⟨Bs, 0, none⟩) hl).trans hBs
  have h0 := (hW.cell (p := ⟨b, off, none⟩) hb).trans h0
  have h1 := (hW.cell (p := ⟨b, off + 1, none⟩) hb).trans h1
  obtain ⟨fn, tmps, assign, body, hy, hR⟩ := hY [] () W hJ0 (by decide)
  dsimp only at hy
  refine callsIn_of_wp Tryz.func107 rfl trivial ?_ rfl
  simp only [Tryz.ntmps107, List.size_toArray, List.length_cons, List.length_nil, Nat.reduceAdd, Nat.reduceSub, Array.replicate_succ, Array.replicate_zero, List.push_toArray, List.append_toArray, List.nil_append, List.cons_append]
  gi_wp2
  refine wpIn_loop_rounds 2 ?_
  rw [roundsIn_succ]
  gi_wp2
  refine hR.mono ?_
  rintro e W3 (⟨rfl, hJ3, hk3⟩ | ⟨rfl, hJx3⟩)
  · gi_wp2
    rw [roundsIn_succ]
    gi_wp2
    go_end0
    exact ⟨⟨_, rfl⟩, .inl ⟨[()], rfl, hJ3⟩⟩
  · gi_wp2
    refine bodyPost_ret (results_none rfl _ _ _) rfl ?_
    exact ⟨⟨_, rfl⟩, .inr ⟨[()], rfl, hJx3⟩⟩
theorem backward_any (a : Option Addr) (n c : Nat) (w : World) :
    Calls Tryz.prog 65 #[.slice a n c] w fun e w' => e = .returned (.func (.func 107) #[] #[.pointer (some ⟨w.heap.size, 0, none⟩)]) ∧ w' = w.alloc (.cells #[.slice a n c] 42) := by
  go_enter Tryz.func65, Tryz.ntmps65
  go_wp2
  go_ret
  exact ⟨rfl, rfl⟩
def postOne (B : Nat) (P1 : World → Prop) (W : World) : Exit → Act → World → Prop
  | .normal, _, W' => KeepsFrom B W W' ∧ P1 W'
  | _, _, _ => False
/-- a range over a function that yields once; its second variable lies in a box -/
theorem wp_range_once {P : Program} {g : Operand} {ps : Array Tmp} {assign body : Code} {Q : Exit → Act → World → Prop} {a : Act} {w : World} {n : Nat} (h1 : 1 ≤ n) {gf : Nat} {lb : Array Value} (hg : a.eval g = .func (.func gf) #[] lb)
    (eg : ∀ args w, (callFunc gf args).run P w = .ok (.enter gf args) w) {v0 v1 : Value} (hps : ps.size = 2)
    (hseq : SeqStopsK Fence.wide (n - 1) P gf lb (fun _ : Unit => #[v0, v1]) (fun _ _ => True) (fun xs => xs = [()]) (fun pre => pre = [()]) 1 w)
    (P0 P1 : World → Prop) (hP0 : OwnFrom w.heap.size (fun (_ : Unit) W => P0 W)) (hP1 : OwnFrom w.heap.size (fun (_ : Unit) W => P1 W)) (h0 : P0 w) (d : Tmp) (ty : TypeId) (cs : Array Value)
    (hB0 : ∀ W W', P0 W → Below W.heap.size W W' → P0 W') (hB1 : ∀ W W', P1 W → Below W.heap.size W W' → P1 W')
    (hassign : ∀ (l : Nat) (W : World) (K : Act → World → Prop), (∀ Bx W', Below W.heap.size W W' → Blk W' Bx ty cs → K { tmps := ((ps.zip #[v0, v1]).foldl (fun t (p, v) => t.setIfInBounds p v) a.tmps).setIfInBounds d (.pointer (some ⟨Bx, 0, none⟩)), defers := [] } W') →
      assign.wpIn (Fence.wide.inRound l) (n - 1 - 1) P (Exit.then K (fun _ _ _ => False)) { tmps := (ps.zip #[v0, v1]).foldl (fun t (p, v) => t.setIfInBounds p v) a.tmps, defers := [] } W)
    (hbody : ∀ (l Bx : Nat) (W : World), P0 W → Blk W Bx ty cs → body.wpIn (Fence.wide.inRound l) (n - 1 - 1) P (postOne w.heap.size P1 W) { tmps := ((ps.zip #[v0, v1]).foldl (fun t (p, v) => t.setIfInBounds p v) a.tmps).setIfInBounds d (.pointer (some ⟨Bx, 0, none⟩)), defers := [] } W)
    (hdone : ∀ (D : Nat) (W : World), w.heap.size ≤ D → P1 W → W.heap[D]? = some (.deferred (some [])) → Q .normal { a with defers := { target := .collected D, args := #[] } :: a.defers } W) :
    (Code.rangeFunc g ps assign body).wp P Q a w := by
  refine (wpIn_wide (n := n)).1 ?_
  refine wpIn_rangeFunc_ownH (F := Fence.wide) rfl h1 hg trivial eg hseq (fun _ _ => trivial) (fun _ _ _ _ _ _ _ _ => trivial) (Below.refl _ _) (fun _ => hps.symm)
    (fun pre W => (pre = [] ∧ P0 W) ∨ (pre = [()] ∧ P1 W)) (fun _ _ _ => False) ?_ (fun _ _ _ _ _ hs _ _ => hs) (.inl ⟨rfl, h0⟩)
    (fun _ a' W => ∃ Bx, Blk W Bx ty cs ∧ a' = { tmps := ((ps.zip #[v0, v1]).foldl (fun t (p, v) => t.setIfInBounds p v) a.tmps).setIfInBounds d (.pointer (some ⟨Bx, 0, none⟩)), defers := [] }) ?_ ?_ ?_ ?_ ?_
  · rintro s W W' row (⟨e, h⟩ | ⟨e, h⟩) hg' hr
    · exact .inl ⟨e, hP0 () W W' row h hg' hr⟩
    · exact .inr ⟨e, hP1 () W W' row h hg' hr⟩
  · rintro x a' s W W' row ⟨Bx, hB, ha⟩ hg' hr
    refine ⟨Bx, hB.grown hg' fun e => ?_, ha⟩
    obtain ⟨_, o, ho, hc⟩ := hr Bx e.symm
    rw [hB] at ho
    injection ho with ho
    rw [← ho] at hc; cases hc
  · rintro l pre x W K hI hK
    refine hassign l W K fun Bx W' hb hB => hK _ W' ((KeepsOthers.of_grownBy (row := none) (below_grownBy hb) (fun j o e => by cases e)).from _) trivial ?_ ⟨Bx, hB, rfl⟩
    rcases hI with ⟨e, hI⟩ | ⟨e, hI⟩
    · exact .inl ⟨e, hB0 W W' hI hb⟩
    · exact .inr ⟨e, hB1 W W' hI hb⟩
  · rintro l pre x a' W hl ⟨r, hr⟩ (⟨rfl, hI⟩ | ⟨rfl, hI⟩) ⟨Bx, hB, rfl⟩ hlen
    · refine wpIn_mono (hbody l Bx W hI hB) fun e a W' h => ?_
      cases e with
      | normal => exact ⟨h.1, trivial, .inr ⟨rfl, h.2⟩⟩
      | ret => exact h.elim
      | exit id => exact h.elim
      | goto t => exact h.elim
      | panic c => exact h.elim
      | outgrown => exact h.elim
    · simp at hlen
  · rintro D xs W hD rfl (⟨h, _⟩ | ⟨_, hI⟩) hK
    · cases h
    · exact hdone D W hD hI hK
  · rintro D c pre W hD _ h _
    exact h.elim
end Go.Proofs.YtneelidbgigehaaGreat

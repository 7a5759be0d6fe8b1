/- Lemmas: Base. -/
import Derived.WalkKit
import Derived.WalkSpells
import Derived.WalkLawsBesides
import Derived.BigQuiet
import Derived.Deep.Quiet
import Derived.StillTail
import Derived.Lib.Hide
import Derived.Maps.AppendAt
import Derived.Deep.AppendLies
import Derived.RegionTactic
import Derived.OwnWalk
import Derived.Test.YtneelidbgigehaaGreatRows
/- Small words for walks: a world that has grown beyond another one, and calls that return a value and leave old memory alone. (joined: Kit QTail Own App Blk Nest) -/
/- Small words for walks: a world that has grown beyond another one, and calls that return a value and leave old memory alone. -/
namespace Go.Proofs.YtneelidbgigehaaGreat
set_option linter.unusedSimpArgs false
set_option linter.unusedVariables false
open Go.RowKit

theorem ret_int {k : IntKind} {a b : Int} (h : a = b) : Ending.returned (.int k a) = .returned (.int k b) := by rw [h]
theorem ret_bool {a b : Bool} (h : a = b) : Ending.returned (.bool a) = .returned (.bool b) := by rw [h]

/-- a world in which all that lies in W is as it was -/
def Kin (W : World) := { x : World // Below W.heap.size W x }
abbrev Kin.wd {W : World} (z : Kin W) : World := Subtype.val z
instance (W : World) : Nonempty (Kin W) := ⟨⟨W, Below.refl _ _⟩⟩
section
variable {W : World}
theorem Kin.cell (x : Kin W) {b o : Nat} (h : b < W.heap.size) : x.1.cell? ⟨b, o, none⟩ = W.cell? ⟨b, o, none⟩ := x.2.cell (p := ⟨b, o, none⟩) h
theorem Kin.frozen (x : Kin W) {b o : Nat} (h : b < W.heap.size) : x.1.frozen? ⟨b, o, none⟩ = W.frozen? ⟨b, o, none⟩ := x.2.frozen (p := ⟨b, o, none⟩) h
theorem Kin.below {W0 : World} (x : Kin W) (h : Below W0.heap.size W0 W) : Below W0.heap.size W0 x.1 := h.trans (x.2.mono h.size)
/-- a call that leaves old memory alone, in a world grown out of W -/
theorem Kin.call {P : Program} {f : FuncId} {args : Array Value} {R : Ending → World → Prop} (x : Kin W)
    (h : Calls P f args x.1 fun e w' => R e w' ∧ Below x.1.heap.size x.1 w') : Calls P f args x.1 fun e w' => ∃ z : Kin W, R e z.1 ∧ z.1 = w' :=
  h.mono fun _ w' ⟨he, hb⟩ => ⟨⟨w', x.2.trans (hb.mono x.2.size)⟩, he, rfl⟩
theorem Kin.call0 {P : Program} {f : FuncId} {args : Array Value} {R : Ending → World → Prop}
    (h : Calls P f args W fun e w' => R e w' ∧ Below W.heap.size W w') : Calls P f args W fun e w' => ∃ z : Kin W, R e z.1 ∧ z.1 = w' :=
  h.mono fun _ w' ⟨he, hb⟩ => ⟨⟨w', hb⟩, he, rfl⟩
/-- the same, inside a region that draws its order -/
theorem Kin.quiet {P : Program} {f : FuncId} {args : Array Value} {v : Value} (x : Kin W)
    (h : Calls P f args x.1 fun e w' => e = .returned v ∧ Below x.1.heap.size x.1 w') : Calls P f args x.1 fun e w' => e = .returned v ∧ ∃ z : Kin W, w' = z.1 :=
  h.mono fun _ w' ⟨he, hb⟩ => ⟨he, ⟨w', x.2.trans (hb.mono x.2.size)⟩, rfl⟩
theorem wp_region_kin0 {P : Program} {id : Nat} {Q : Exit → Act → World → Prop} {a : Act} {l : List Oper} (hm : P.follows .mixedOrders = true) (hB : Region.lexB .any l.toArray = true)
    (h : wpQuiet P l.toArray (fun w' => ∃ z : Kin W, w' = z.1) (fun a' => ∀ w', (∃ z : Kin W, w' = z.1) → Q .normal a' w') l a) : (Code.region id l.toArray true).wp P Q a W :=
  wp_region_quiet (C := fun w' => ∃ z : Kin W, w' = z.1) hm hB ⟨⟨W.drew, (Below.refl _ _).drew⟩, rfl⟩ (by simpa using h)
theorem wp_region_kin {P : Program} {id : Nat} {Q : Exit → Act → World → Prop} {a : Act} {l : List Oper} (x : Kin W) (hm : P.follows .mixedOrders = true) (hB : Region.lexB .any l.toArray = true)
    (h : wpQuiet P l.toArray (fun w' => ∃ z : Kin W, w' = z.1) (fun a' => ∀ w', (∃ z : Kin W, w' = z.1) → Q .normal a' w') l a) : (Code.region id l.toArray true).wp P Q a x.1 :=
  wp_region_quiet (C := fun w' => ∃ z : Kin W, w' = z.1) hm hB ⟨⟨x.1.drew, x.2.drew⟩, rfl⟩ (by simpa using h)
end
theorem Kin.le {W : World} (z : Kin W) {n : Nat} (h : n ≤ W.heap.size) : n ≤ z.1.heap.size := Nat.le_trans h z.2.size
theorem le_alloc {w : World} {n : Nat} (h : n ≤ w.heap.size) (o : Obj) : n ≤ (w.alloc o).heap.size := by simp only [World.size_alloc]; omega
theorem le_drew {w : World} {n : Nat} (h : n ≤ w.heap.size) : n ≤ w.drew.heap.size := h
/-- the steps of 'Below ..' and '.. ≤ heap.size' under short names (they stand in all walks) -/
theorem blA {B : Nat} {w : World} : Below B w w := Below.refl _ _
theorem blB {n : Nat} : n ≤ n := Nat.le_refl _
theorem blC {W W0 : World} (x : Kin W) (h : Below W0.heap.size W0 W) : Below W0.heap.size W0 x.1 := Kin.below x h
theorem blD {B : Nat} {a w : World} (h : Below B a w) (hB : B ≤ w.heap.size) (o : Obj) : Below B a (w.alloc o) := h.alloc hB o
theorem blE {B : Nat} {a w : World} (h : Below B a w) : Below B a w.drew := h.drew
theorem blF {W : World} (z : Kin W) {n : Nat} (h : n ≤ W.heap.size) : n ≤ z.1.heap.size := Kin.le z h
theorem blG {w : World} {n : Nat} (h : n ≤ w.heap.size) (o : Obj) : n ≤ (w.alloc o).heap.size := le_alloc h o
theorem blH {w : World} {n : Nat} (h : n ≤ w.heap.size) : n ≤ w.drew.heap.size := le_drew h
theorem blI {B : Nat} {a w : World} (h : Below B a w) {p : Addr} (hp : B ≤ p.block) (u : Value) : Below B a (w.setCell p u) := h.setCell hp u
theorem gRw {p : Prop} (h : p := by repeat (first | with_reducible (first | exact blA | exact blB | refine blC _ ?_ | refine blD ?_ ?_ _ | refine blE ?_ | refine blF _ ?_ | refine blG ?_ _ | refine blH ?_ | refine blI ?_ ?_ _) | (simp only [World.size_alloc]; omega) | (simp <;> omega))) : p := h
theorem lEw {p : Prop} (h : p := by repeat (first | with_reducible exact Nat.le_refl _ | assumption | with_reducible refine le_alloc ?_ _ | with_reducible refine le_drew ?_ | with_reducible refine Kin.le _ ?_ | assumption | omega | (simp only [World.size_alloc]; omega))) : p := h
theorem Kin.lt {W : World} (z : Kin W) {n : Nat} (h : n < W.heap.size) : n < z.1.heap.size := Nat.lt_of_lt_of_le h z.2.size
/-- a slice that reads as the list xs; each element takes k cells, 'enc x'; all of it lies in W -/
def Rd {α : Type} (k : Nat) (enc : α → List Value) (W : World) (v : Value) (xs : List α) : Prop :=
  ∃ A cap, v = .slice A xs.length cap ∧ xs.length ≤ cap ∧ (xs = [] ∨ ∃ b off, A = some ⟨b, off, none⟩ ∧ b < W.heap.size ∧
    ∀ i x, xs[i]? = some x → ∀ j u, (enc x)[j]? = some u → W.cell? ⟨b, off + i * k + j, none⟩ = some u)
section
variable {α : Type} {k : Nat} {enc : α → List Value} {W W' : World} {v : Value} {xs : List α}
theorem Rd.below (h : Rd k enc W v xs) (hb : Below W.heap.size W W') : Rd k enc W' v xs := by
  obtain ⟨A, cap, hv, hc, h⟩ := h
  refine ⟨A, cap, hv, hc, ?_⟩
  rcases h with h | ⟨b, off, hA, hlt, hcell⟩
  · exact .inl h
  · exact .inr ⟨b, off, hA, Nat.lt_of_lt_of_le hlt hb.size, fun i x hx j u hu => (hb.cell (p := ⟨b, _, none⟩) hlt).trans (hcell i x hx j u hu)⟩
theorem Rd.kin (h : Rd k enc W v xs) (z : Kin W) : Rd k enc z.1 v xs := h.below z.2
theorem Rd.nil : Rd k enc W (.slice none 0 0) [] := ⟨none, 0, rfl, Nat.le_refl _, .inl rfl⟩
/-- what the call owns stays owned in a grown world -/
theorem own_below {base : Nat} {e : TypeId} {size n : Nat} {cs : List Value} (h : W.ownsRow base e size v n cs) (hb : Below W.heap.size W W') : W'.ownsRow base e size v n cs :=
  h.kept (row := none) ⟨hb.os, hb.tape, hb.output, hb.size, fun i hi _ => hb.block i hi⟩ (by cases hv : v.ownBlock <;> simp)
theorem flat_get (hk : ∀ x, (enc x).length = k) : ∀ (xs : List α) (i : Nat) (x : α), xs[i]? = some x → ∀ (j : Nat) (u : Value), (enc x)[j]? = some u → (xs.flatMap enc)[i * k + j]? = some u
  | [], i, x, hx, _, _, _ => by simp at hx
  | y :: xs, 0, x, hx, j, u, hu => by
    simp at hx; subst hx
    have : j < (enc y).length := (List.getElem?_eq_some_iff.1 hu).1
    simp only [List.flatMap_cons, Nat.zero_mul, Nat.zero_add]
    rw [List.getElem?_append_left this]; exact hu
  | y :: xs, i + 1, x, hx, j, u, hu => by
    simp at hx
    have := flat_get hk xs i x hx j u hu
    simp only [List.flatMap_cons]
    rw [List.getElem?_append_right (by rw [hk, Nat.add_mul]; omega), hk]
    rw [show (i + 1) * k + j - k = i * k + j from by rw [Nat.add_mul]; omega]
    exact this
theorem flat_len (hk : ∀ x, (enc x).length = k) (xs : List α) : (xs.flatMap enc).length = xs.length * k := by
  induction xs with
  | nil => simp
  | cons y xs ih => simp [hk, ih, Nat.add_mul]; omega
/-- what the call owns reads as a list -/
theorem Rd.own {base : Nat} {e : TypeId} (hk : ∀ x, (enc x).length = k) (h : W.ownsRow base e k v xs.length (xs.flatMap enc)) : Rd k enc W v xs := by
  rcases h.2 with ⟨rfl, h0⟩ | ⟨g, cap, cur, rfl, _, hg, hn, _, _, _⟩
  · exact ⟨none, 0, by rw [h0], by omega, .inl (List.eq_nil_of_length_eq_zero h0)⟩
  · refine ⟨_, cap, rfl, hn, ?_⟩
    rcases xs with _ | ⟨x, xs⟩
    · exact .inl rfl
    · refine .inr ⟨g, 0, rfl, (Array.getElem?_eq_some_iff.1 hg).1, fun i y hy j u hu => ?_⟩
      have := h.cells (g := g) rfl (i * k + j) u (flat_get hk _ i y hy j u hu)
      rw [Nat.zero_add]
      have e : ((⟨g, 0, none⟩ : Addr).add (i * k + j)) = ⟨g, i * k + j, none⟩ := by unfold Addr.add; split <;> simp_all
      rwa [e] at this
/-- nil, empty or not: the address, if there is an element -/
theorem Rd.open_ (h : Rd k enc W v xs) : ∃ (A : Option Addr) (cap : Nat), v = .slice A xs.length cap ∧ xs.length ≤ cap ∧ (∀ (i : Nat) (x : α), xs[i]? = some x → ∃ b off, A = some ⟨b, off, none⟩ ∧ b < W.heap.size ∧
    ∀ (i : Nat) (x : α), xs[i]? = some x → ∀ (j : Nat) (u : Value), (enc x)[j]? = some u → W.cell? ⟨b, off + i * k + j, none⟩ = some u) := by
  obtain ⟨A, cap, hv, hc, h⟩ := h
  refine ⟨A, cap, hv, hc, fun i x hx => ?_⟩
  rcases h with rfl | h
  · simp at hx
  · exact h
end
/-- inside a quiet region: an operation's guard that is not decided: two ways -/
theorem wpQuiet_guard {P : Program} {ops : Array Oper} {C : World → Prop} {Q : Act → Prop} {o : Oper} {rest : List Oper} {a : Act} {j : Nat} {b : Bool} {oj : Oper} {d : Tmp} {e : Bool}
    (_hg : o.guard = some (j, b)) (_hj : ops[j]? = some oj) (_hd : oj.dst = some d) (hv : a.tmps[d]? = some (.bool e))
    (ht : e = true → wpQuiet P ops C Q (o :: rest) (a.put (some d) (.bool true))) (hf : e = false → wpQuiet P ops C Q (o :: rest) (a.put (some d) (.bool false))) : wpQuiet P ops C Q (o :: rest) a := by
  have hsame : ∀ t, e = t → a.put (some d) (.bool t) = a := by
    intro t ht
    subst ht
    obtain ⟨tm, df⟩ := a
    simp only [Act.put, Act.mk.injEq, and_true]
    apply Array.ext
    · simp
    · intro i h1 h2
      rw [Array.getElem_setIfInBounds]
      split
      · rename_i h
        subst h
        simp only at hv
        rw [Array.getElem?_eq_getElem h2] at hv
        exact (Option.some.inj hv).symm
      · rfl
  cases e
  · rw [← hsame false rfl]; exact hf rfl
  · rw [← hsame true rfl]; exact ht rfl
end Go.Proofs.YtneelidbgigehaaGreat
/- A region that draws its order: quiet operations (calls among them) ahead of a chain that may write: one walk serves every order. -/
namespace Go.Proofs.YtneelidbgigehaaGreat
set_option linter.unusedSimpArgs false
set_option linter.unusedVariables false
open Go.RowKit
section
variable {P : Program} {ops : Array Oper} {md : Region.Mode} {C : World → Prop}
/-- the head's operations come up in any order, each of them quiet; behind them L -/
def Heads (P : Program) (md : Region.Mode) (ops : Array Oper) (C : World → Prop) (n : Nat) (L : Array Bool → Act → Prop) : Nat → Array Bool → Act → Prop
  | 0, seen, a => L seen a
  | m + 1, seen, a => Region.ready md ops seen ≠ [] ∧ ∀ i ∈ Region.ready md ops seen, i < n ∧ qOp P ops C i (Heads P md ops C n L m (seen.setIfInBounds i true)) a
theorem Heads.any {n g : Nat} {L : Array Bool → Act → Prop} {Q : Exit → Act → World → Prop} (hL : ∀ seen a w, C w → L seen a → wpAny P md ops Q g seen a w) :
    ∀ (m : Nat) (seen : Array Bool) (a : Act) (w : World), C w → Heads P md ops C n L m seen a → wpAny P md ops Q (m + g) seen a w := by
  intro m
  induction m with
  | zero => intro seen a w hw h; rw [Nat.zero_add]; exact hL seen a w hw h
  | succ m ih =>
    intro seen a w hw h
    have e : m + 1 + g = (m + g) + 1 := by omega
    rw [e]
    exact ⟨fun h0 => absurd h0 h.1, fun i hi => wpOp_of_qOp hw (fun a' w' hw' h' => ih _ a' w' hw' h') (h.2 i hi).2⟩
/-- every operation from m to n - 1 is waited for by a later one, up to n -/
def sinkFrom (md : Region.Mode) (ops : Array Oper) (m n : Nat) : Bool := (List.range n).all fun i => decide (i < m) || (List.range (n + 1)).any fun j => decide (i < j) && Region.waitsFor md ops j i
/-- while a head is outstanding no operation of the tail comes up -/
theorem tail_held {m n : Nat} {seen : Array Bool} (hs : sinkFrom md ops m n = true) (hc : Region.chainB md ops n = true) (inv : HeadInv md ops n seen) :
    ∀ (d i : Nat), n - i = d → m ≤ i → i < n → seen.getD i true = false → ∀ t, n ≤ t → t ∉ Region.ready md ops seen := by
  intro d
  induction d using Nat.strongRecOn with
  | _ d ih =>
    intro i hd hmi hi hun t ht hr
    obtain ⟨_, ot, hot, hall⟩ := mem_ready.1 hr
    have htlt : t < ops.size := (Array.getElem?_eq_some_iff.1 hot).1
    have two : ∀ k, seen.getD k true = false → (∀ e ∈ ot.after, Region.binds md e = true → e.on = k → False) := fun k hk e he hb hon => by
      have := hall e he hb
      rw [hon, getD_both hk] at this
      cases this
    rcases Nat.eq_or_lt_of_le ht with h0 | h0
    · have h1 := List.all_eq_true.1 hs i (List.mem_range.2 hi)
      simp only [Bool.or_eq_true, decide_eq_true_eq] at h1
      rcases h1 with h1 | h1
      · omega
      obtain ⟨j, hj, hj2⟩ := List.any_eq_true.1 h1
      simp only [Bool.and_eq_true, decide_eq_true_eq] at hj2
      obtain ⟨oj, hoj, e, he, hb, hon⟩ := Region.waitsFor_spec hj2.2
      have hjle := List.mem_range.1 hj
      by_cases hjt : j = t
      · rw [hjt, hot] at hoj
        injection hoj with hoj
        subst hoj
        exact two i hun e he hb hon
      · cases hl : seen.getD j false with
        | true =>
          have h2 := inv.closed j oj hoj hl e he hb
          rw [hon, getD_both hun] at h2
          cases h2
        | false => exact ih (n - j) (by omega) j rfl (by omega) (by omega) (getD_in (by rw [inv.size]; omega) hl) t (by omega) hr
    · have h1 := List.all_eq_true.1 hc t (List.mem_range.2 htlt)
      simp only [Bool.or_eq_true, decide_eq_true_eq] at h1
      rcases h1 with h1 | h1
      · omega
      · obtain ⟨o', ho', e, he, hb, hon⟩ := Region.waitsFor_spec h1
        rw [hot] at ho'
        injection ho' with ho'
        subst ho'
        exact two (t - 1) (inv.tail (t - 1) (by omega) (by omega)) e he hb hon
/-- what has been shown of operation i, first in line, holds in whatever place it comes up -/
theorem Heads.first {m0 n i : Nat} {o : Oper} {v : Value} {L : Array Bool → Act → Prop} (hi : ops[i]? = some o) (hsel : ∀ (j : Nat) (o : Oper) cs b, ops[j]? = some o → o.op ≠ .select cs b)
    (hs : sinkFrom md ops m0 n = true) (hc : Region.chainB md ops n = true) (hmi : m0 ≤ i) (hin : i < n) (hdone : ∀ seen a, L seen a → ∀ j ∈ Region.ready md ops seen, n ≤ j) :
    ∀ (m : Nat) (seen : Array Bool) (a : Act), HeadInv md ops n seen →
      (∀ j oj, ops[j]? = some oj → j ≠ i → seen.getD j true = false → (∀ e ∈ oj.after, Region.binds md e = true → e.on ≠ i) → o.apart ops oj = true) →
      i ∈ Region.ready md ops seen → YieldsIn P ops C o v a → Heads P md ops C n L m (seen.setIfInBounds i true) (a.put o.dst v) → Heads P md ops C n L (m + 1) seen a := by
  intro m
  induction m with
  | zero =>
    intro seen a inv _ hr hy H
    refine ⟨List.ne_nil_of_mem hr, fun j hj => ?_⟩
    have hjn : j < n := Nat.lt_of_not_le fun h => tail_held hs hc inv _ i rfl hmi hin (mem_ready.1 hr).1 j h hj
    by_cases hji : j = i
    · exact ⟨hjn, by rw [hji]; exact hy.qOp hi H⟩
    · exact absurd (hdone _ _ H j (ready_mono hj hji)) (by omega)
  | succ m ih =>
    intro seen a inv hfree hr hy H
    refine ⟨List.ne_nil_of_mem hr, fun j hj => ?_⟩
    have hun := (mem_ready.1 hr).1
    have hjn : j < n := Nat.lt_of_not_le fun h => tail_held hs hc inv _ i rfl hmi hin hun j h hj
    by_cases hji : j = i
    · exact ⟨hjn, by rw [hji]; exact hy.qOp hi H⟩
    · obtain ⟨hjun, oj, hoj, hall⟩ := mem_ready.1 hj
      have hnot : ∀ e ∈ oj.after, Region.binds md e = true → e.on ≠ i := fun e he hb he2 => by
        have := hall e he hb
        rw [he2, getD_both hun] at this
        cases this
      have h2 := qOp_put hoj (hfree j oj hoj hji hjun hnot) (fun cs b => hsel i o cs b hi) (fun cs b => hsel j oj cs b hoj) hy (H.2 j (ready_mono hj hji)).2
      refine ⟨hjn, qOp_mono (fun a' h3 => ih (seen.setIfInBounds j true) a' (inv.set hj hjn) (fun k ok hk hki hk2 hno => hfree k ok hk hki ?_ hno) (ready_mono hr (Ne.symm hji)) h3.1 (by rw [Array.setIfInBounds_comm _ _ hji]; exact h3.2)) h2⟩
      by_cases hjk : j = k
      · rw [← hjk]; exact hjun
      · rwa [getD_set_ne true hjk] at hk2
theorem Heads.walk {m0 n g : Nat} {K : Act → Prop} (hsel : Region.noSelect ops = true) (hs : sinkFrom md ops m0 n = true) (hc : Region.chainB md ops n = true) :
    ∀ (l : List Oper) (k : Nat) (seen : Array Bool) (a : Act), (∀ j, j < l.length → l[j]? = ops[k + j]?) → m0 ≤ k → k + l.length = n → HeadInv md ops n seen →
    Region.lexHead md ops g l.length k seen = true → wpQuiet P ops C K l a → Heads P md ops C n (fun seen' a' => Region.seqB md ops g n seen' = true ∧ K a') l.length seen a := by
  intro l
  induction l with
  | nil =>
    intro k seen a _ _ hk _ hB h
    have : k = n := by simpa using hk
    subst this
    exact ⟨by simpa [Region.lexHead] using hB, h⟩
  | cons o l ih =>
    intro k seen a hl hmk hk inv hB h
    have h0 : ops[k]? = some o := by simpa using (hl 0 (by simp)).symm
    simp only [List.length_cons] at hk
    simp only [List.length_cons, Region.lexHead, Bool.and_eq_true] at hB
    have hr : k ∈ Region.ready md ops seen := by simpa using hB.1.1
    have hst : qOp P ops C k (wpQuiet P ops C K l) a := by unfold qOp; simp only [h0]; exact h
    obtain ⟨v, hy, hK⟩ := yieldsIn_of_qOp h0 hst
    refine Heads.first h0 (Region.noSelect_spec hsel) hs hc hmk (by omega) (fun seen' a' hL => seqB_ready hL.1) l.length seen a inv (Region.free_spec h0 hB.1.2) hr hy ?_
    exact ih (k + 1) _ _ (fun j hj => by have := hl (j + 1) (by simp; omega); simpa [Nat.add_assoc, Nat.add_comm 1 j] using this) (by omega) (by omega) (inv.set hr (by omega)) hB.2 hK
/-- no way out but the plain one -/
def Only (K : Act → World → Prop) : Exit → Act → World → Prop := Exit.then K fun _ _ _ => False
theorem Only.normal {K : Act → World → Prop} : ∀ {e : Exit} {a : Act} {w : World}, Only K e a w → e = .normal
  | .normal, _, _, _ => rfl
theorem wpOp_put {j : Nat} {oi oj : Oper} {v : Value} {Q : Exit → Act → World → Prop} {K : Act → World → Prop} {a : Act} {w : World} (hj : ops[j]? = some oj) (hap : oi.apart ops oj = true)
    (hsi : ∀ cs b, oi.op ≠ .select cs b) (hsj : ∀ cs b, oj.op ≠ .select cs b) (hQ : ∀ e a w, Q e a w → e = .normal)
    (hy : ∀ w0, YieldsIn P ops (fun w' => w' = w0) oi v a) (h : wpOp P ops Q j K (a.put oi.dst v) w) :
    wpOp P ops Q j (fun a' w' => (∀ w0, YieldsIn P ops (fun w' => w' = w0) oi v a') ∧ K (a'.put oi.dst v) w') a w := by
  obtain ⟨h1, h2, h3⟩ := Oper.apart_spec hap
  have keep : ∀ u w0, YieldsIn P ops (fun w' => w' = w0) oi v (a.put oj.dst u) := fun u w0 => (hy w0).of_same (execOp_put oi hsi a oj.dst u h3) (wanted_put oi a oj.dst u h3)
  unfold wpOp at *
  simp only [hj] at *
  rw [wanted_put oj a oi.dst v h1] at h
  split
  · rename_i hw
    simp only [hw, if_true] at h
    rcases h with h | ⟨_, a', w', hq⟩
    · left
      unfold Oper.wp at *
      rw [execOp_put oj hsj a oi.dst v h1] at h
      generalize (execOp a.eval oj).run P w = r at *
      cases r with
      | ok n w' =>
        cases n <;> simp only [Oper.upon] at h ⊢
        case value u => exact ⟨keep u, by rw [← Act.put_comm a v u h2]; exact h⟩
        case skip => exact ⟨keep undef, by rw [← Act.put_comm a v undef h2]; exact h⟩
        case defer d =>
          refine ⟨?_, ?_⟩
          · intro w0
            have e1 : ({ a with defers := d :: a.defers }.put oj.dst undef).eval = (a.put oj.dst undef).eval := by
              funext x; cases x <;> cases oj.dst <;> rfl
            have e2 : ({ a with defers := d :: a.defers }.put oj.dst undef).tmps = (a.put oj.dst undef).tmps := by cases oj.dst <;> rfl
            exact (keep undef w0).of_same (by rw [e1]) (by rw [e2])
          · have e := Act.put_comm a v undef h2
            have : ({ a with defers := d :: a.defers }.put oj.dst undef).put oi.dst v = { a.put oi.dst v with defers := d :: (a.put oi.dst v).defers }.put oj.dst undef := by
              simp only [Act.put, Act.mk.injEq] at e ⊢
              cases hi : oi.dst <;> cases ho : oj.dst <;> simp_all
            rw [this]; exact h
        case enter f args =>
          refine h.mono fun e w'' he => ?_
          cases e with
          | returned u => exact ⟨keep u, by rw [← Act.put_comm a v u h2]; exact he⟩
          | panicked c => exact absurd (hQ _ _ _ he) (by simp)
          | outgrown => obtain ⟨a', w', hq⟩ := he; exact absurd (hQ _ _ _ hq) (by simp)
        case row r args => exact Rows.mono h fun u w'' he => ⟨keep u, by rw [← Act.put_comm a v u h2]; exact he⟩
      | halt x w' =>
        cases x <;> simp only [Oper.upon] at h ⊢
        exact absurd (hQ _ _ _ h) (by simp)
    · exact absurd (hQ _ _ _ hq) (by simp)
  · rename_i hw
    simp only [hw] at h
    exact ⟨keep undef, by rw [← Act.put_comm a v undef h2]; exact h⟩
/-- an operation that yields the same in every world may be taken first -/
theorem wpAny_float {i : Nat} {oi : Oper} {v : Value} {Q : Exit → Act → World → Prop} (hi : ops[i]? = some oi) (hsel : ∀ (j : Nat) (o : Oper) cs b, ops[j]? = some o → o.op ≠ .select cs b) (hQ : ∀ e a w, Q e a w → e = .normal) :
    ∀ (f : Nat) (seen : Array Bool) (a : Act) (w : World),
      (∀ j oj, ops[j]? = some oj → j ≠ i → seen.getD j true = false → (∀ e ∈ oj.after, Region.binds md e = true → e.on ≠ i) → oi.apart ops oj = true) →
      i ∈ Region.ready md ops seen → (∀ w0, YieldsIn P ops (fun w' => w' = w0) oi v a) → wpAny P md ops Q f (seen.setIfInBounds i true) (a.put oi.dst v) w → wpAny P md ops Q (f + 1) seen a w := by
  have own : ∀ {K : Act → World → Prop} {a : Act} {w : World}, (∀ w0, YieldsIn P ops (fun w' => w' = w0) oi v a) → K (a.put oi.dst v) w → wpOp P ops Q i K a w := fun {K a w} hy hK =>
    wpOp_of_qOp (C := fun w' => w' = w) (K := fun a' => a' = a.put oi.dst v) rfl (fun a' w' hw ha => by subst hw ha; exact hK) ((hy w).qOp hi rfl)
  intro f
  induction f with
  | zero =>
    intro seen a w _ hr hy H
    refine ⟨fun h => absurd h (List.ne_nil_of_mem hr), fun j hj => ?_⟩
    by_cases hji : j = i
    · rw [hji]; exact own hy H
    · have := ready_mono hj hji
      rw [H.1] at this
      cases this
  | succ f ih =>
    intro seen a w hfree hr hy H
    refine ⟨fun h => absurd h (List.ne_nil_of_mem hr), fun j hj => ?_⟩
    by_cases hji : j = i
    · rw [hji]; exact own hy H
    · obtain ⟨hjun, oj, hoj, hall⟩ := mem_ready.1 hj
      have hnot : ∀ e ∈ oj.after, Region.binds md e = true → e.on ≠ i := fun e he hb he2 => by
        have := hall e he hb
        rw [he2, getD_both (mem_ready.1 hr).1] at this
        cases this
      have h2 := wpOp_put hoj (hfree j oj hoj hji hjun hnot) (fun cs b => hsel i oi cs b hi) (fun cs b => hsel j oj cs b hoj) hQ hy (H.2 j (ready_mono hj hji))
      refine wpOp_mono (fun a' w' h3 => ih (seen.setIfInBounds j true) a' w' (fun k ok hk hki hk2 hno => hfree k ok hk hki ?_ hno) (ready_mono hr (Ne.symm hji)) h3.1 (by rw [Array.setIfInBounds_comm _ _ hji]; exact h3.2)) h2
      by_cases hjk : j = k
      · rw [← hjk]; exact hjun
      · rwa [getD_set_ne true hjk] at hk2
theorem wp_region_quiet_tail {id : Nat} {Q : Exit → Act → World → Prop} {a : Act} {w : World} {l : List Oper} (n : Nat) (hm : P.follows .mixedOrders = true) (hB : Region.lexTailB .any l.toArray n = true)
    (hC : C w.drew) (h : wpQuiet P l.toArray C (fun a' => ∀ w', C w' → wpList P l.toArray Q (l.drop n) a' w') (l.take n) a) : (Code.region id l.toArray true).wp P Q a w := by
  simp only [Region.lexTailB, Bool.and_eq_true, decide_eq_true_eq] at hB
  obtain ⟨⟨⟨⟨hsel, hn⟩, hs⟩, hc⟩, hlex⟩ := hB
  have hn' : n < l.length := by simpa using hn
  have htl : (l.take n).length = n := by rw [List.length_take]; omega
  have hdl : (l.drop n).length = l.toArray.size - n := by simp
  have inv0 : HeadInv .any l.toArray n (Array.replicate l.toArray.size false) :=
    ⟨by simp, fun j oj _ hl => (by rw [getD_replicate_false] at hl; cases hl), fun t _ ht => getD_in (by simpa using ht) (getD_replicate_false _ _)⟩
  have hs' : sinkFrom .any l.toArray 0 n = true := by
    unfold sinkFrom
    unfold Region.sinkB at hs
    rw [List.all_eq_true] at hs ⊢
    intro i hi
    simp only [Bool.or_eq_true]
    exact .inr (hs i hi)
  have H := Heads.walk (md := .any) (m0 := 0) (g := l.toArray.size - n) hsel hs' hc (l.take n) 0 _ a (fun j hj => by
    rw [htl] at hj
    simp [hj]) (Nat.le_refl _) (by simpa using htl) inv0 (by rw [htl]; exact hlex) h
  refine wp_region_any hm ?_
  have H2 := Heads.any (Q := Q) (g := l.toArray.size - n) (fun seen a' w' hw' hL => by
    have := wpAny_of_seq (md := .any) (Q' := Q) (l.drop n) n seen a' w' (fun j => by simp [List.getElem?_drop]) (by rw [hdl]; exact hL.1) (hL.2 w' hw')
    rwa [hdl] at this) _ _ _ w.drew hC H
  rw [htl, show n + (l.toArray.size - n) = l.toArray.size by omega] at H2
  exact H2
/-- the same over worlds that have grown -/
theorem wp_region_kin_tail {id : Nat} {Q : Exit → Act → World → Prop} {a : Act} {w : World} {l : List Oper} (n : Nat) (hm : P.follows .mixedOrders = true) (hB : Region.lexTailB .any l.toArray n = true)
    (h : wpQuiet P l.toArray (fun w' => ∃ z : Kin w, w' = z.1) (fun a' => ∀ w', (∃ z : Kin w, w' = z.1) → wpList P l.toArray Q (l.drop n) a' w') (l.take n) a) : (Code.region id l.toArray true).wp P Q a w :=
  wp_region_quiet_tail n hm hB ⟨⟨w.drew, (Below.refl _ _).drew⟩, rfl⟩ h
/-- the first operation, a move, may come up anywhere; then n - 1 quiet ones, then a chain -/
def floatTailB (l : List Oper) (n : Nat) : Bool :=
  Region.noSelect l.toArray && decide (n < l.length) && decide (0 < n) && sinkFrom .any l.toArray 1 n && Region.chainB .any l.toArray n &&
  (Region.ready .any l.toArray (Array.replicate l.length false)).contains 0 && Region.free .any l.toArray (Array.replicate l.length false) 0 && Region.lexHead .any l.toArray (l.length - n) (n - 1) 1 ((Array.replicate l.length false).setIfInBounds 0 true)
theorem wp_region_float {W w : World} {id : Nat} {Q : Exit → Act → World → Prop} {a : Act} {o0 : Oper} {l : List Oper} {x : Operand} (n : Nat) (hm : P.follows .mixedOrders = true) (hB : floatTailB (o0 :: l) n = true) (ho : o0.op = .move x) (hg : o0.guard = none) (hw : Below W.heap.size W w)
    (h : wpQuiet P (o0 :: l).toArray (fun w' => ∃ z : Kin w, w' = z.1) (fun a' => ∀ zq : Kin W, Below w.heap.size w zq.1 → wpList P (o0 :: l).toArray (Exit.then (Q .normal) fun _ _ _ => False) ((o0 :: l).drop n) a' zq.1) ((o0 :: l).take n) a) :
    (Code.region id (o0 :: l).toArray true).wp P Q a w := by
  simp only [floatTailB, Bool.and_eq_true, decide_eq_true_eq] at hB
  obtain ⟨⟨⟨⟨⟨⟨⟨hsel, hn⟩, hn0⟩, hs⟩, hc⟩, hr0⟩, hf0⟩, hlex⟩ := hB
  have hsz : (o0 :: l).toArray.size = (o0 :: l).length := rfl
  obtain ⟨n, rfl⟩ : ∃ m, n = m + 1 := ⟨n - 1, by omega⟩
  simp only [Nat.add_sub_cancel] at hlex
  simp only [List.take_succ_cons, List.drop_succ_cons] at h
  have hl : n < l.length := by simpa using hn
  have htl : (l.take n).length = n := by rw [List.length_take]; omega
  have h00 : (o0 :: l).toArray[0]? = some o0 := rfl
  have inv0 : HeadInv .any (o0 :: l).toArray (n + 1) (Array.replicate (o0 :: l).length false) :=
    ⟨by simp, fun j oj _ hl => (by rw [getD_replicate_false] at hl; cases hl), fun t _ ht => getD_in (by simpa using ht) (getD_replicate_false _ _)⟩
  have hr : (0 : Nat) ∈ Region.ready .any (o0 :: l).toArray (Array.replicate (o0 :: l).length false) := by simpa using hr0
  have hy : ∀ w0, YieldsIn P (o0 :: l).toArray (fun w' => w' = w0) o0 (a.eval x) a := fun w0 => .inl ⟨by simp [Region.wanted, hg], fun w1 _ => by
    simp [Oper.quietAt, Oper.quietUpon, execOp, ho]⟩
  replace h : wpQuiet P (o0 :: l).toArray (fun w' => ∃ z : Kin w, w' = z.1) (fun a' => ∀ zq : Kin W, Below w.heap.size w zq.1 → wpList P (o0 :: l).toArray (Exit.then (Q .normal) fun _ _ _ => False) (l.drop n) a' zq.1) (l.take n) (a.put o0.dst (a.eval x)) := by
    have hw0 : Region.wanted o0 (yielded (o0 :: l).toArray a.tmps) = true := by simp [Region.wanted, hg]
    unfold wpQuiet at h
    rw [if_pos hw0] at h
    obtain ⟨v, hv, hn⟩ := h
    have := hv w.drew ⟨⟨w.drew, (Below.refl _ _).drew⟩, rfl⟩
    simp [Oper.quietAt, Oper.quietUpon, execOp, ho] at this
    rw [this]; exact hn
  have hdr : ∀ j : Nat, (l.drop n)[j]? = (o0 :: l).toArray[n + 1 + j]? := fun j => by
    rw [List.getElem?_drop]
    simp only [List.getElem?_toArray]
    rw [show n + 1 + j = (n + j) + 1 by omega, List.getElem?_cons_succ]
  have hdl : (l.drop n).length = (o0 :: l).length - (n + 1) := by simp
  have H := Heads.walk (P := P) (C := fun w' => ∃ z : Kin w, w' = z.1) (md := .any) (m0 := 1) (g := (o0 :: l).length - (n + 1)) hsel hs hc (l.take n) 1 _ (a.put o0.dst (a.eval x)) (fun j hj => by
    rw [htl] at hj
    rw [List.getElem?_take_of_lt hj]
    simp only [List.getElem?_toArray]
    rw [Nat.add_comm 1 j, List.getElem?_cons_succ]) (Nat.le_refl _) (by rw [htl]; omega) (inv0.set hr (by omega)) (by rw [htl]; exact hlex) h
  refine wp_mono (Q := Exit.then (Q .normal) fun _ _ _ => False) ?_ fun e a' w' hq => by cases e <;> first | exact hq | exact hq.elim
  refine wp_region_any hm ?_
  have hQ : ∀ e (a : Act) (w : World), Exit.then (Q .normal) (fun _ _ _ => False) e a w → e = .normal := fun e a w hq => by cases e <;> first | rfl | exact hq.elim
  have H2 := Heads.any (Q := Exit.then (Q .normal) fun _ _ _ => False) (g := (o0 :: l).length - (n + 1)) (fun seen a' w' ⟨z, hz⟩ hL => by
    have := wpAny_of_seq (md := .any) (Q' := Exit.then (Q .normal) fun _ _ _ => False) (l.drop n) (n + 1) seen a' w' hdr (by rw [hdl]; exact hL.1) (by
      rw [hz]
      exact hL.2 ⟨z.1, hw.trans (z.2.mono hw.size)⟩ z.2)
    rwa [hdl] at this) _ _ _ w.drew ⟨⟨w.drew, (Below.refl _ _).drew⟩, rfl⟩ H
  have H3 := wpAny_float h00 (Region.noSelect_spec hsel) hQ _ _ a w.drew (Region.free_spec h00 hf0) hr hy H2
  have e : (l.take n).length + ((o0 :: l).length - (n + 1)) + 1 = (o0 :: l).toArray.size := by rw [htl, hsz]; simp; omega
  rw [e] at H3
  exact H3
end
end Go.Proofs.YtneelidbgigehaaGreat
/- Small words for walks that append to a slice of their own. -/
namespace Go.Proofs.YtneelidbgigehaaGreat
set_option linter.unusedSimpArgs false
set_option linter.unusedVariables false
open Go.RowKit
/-- a call that appends to a row of its own leaves old memory alone -/
theorem own_grown {B : Nat} {W0 w w1 : World} {base : Nat} {e : TypeId} {size n : Nat} {v : Value} {xs : List Value} (hB : Below B W0 w) (hown : w.ownsRow base e size v n xs) (hg : w.grownBy w1 v.ownBlock) (h1 : B ≤ base) (h2 : B ≤ w.heap.size) : Below B W0 w1 :=
  hB.grown hg h2 (fun k e => by have := (hown.lt k e).1; omega)
section
variable {W : World}
theorem Kin.lt0 (x : Kin W) {b : Nat} (h : b < W.heap.size) : b < x.1.heap.size := Nat.lt_of_lt_of_le h x.2.size
theorem Kin.lt1 (x : Kin W) {b : Nat} (h : b < W.heap.size) : b < x.1.heap.size + 1 := Nat.lt_succ_of_lt (x.lt0 h)
theorem Kin.lt2 (x : Kin W) {b : Nat} (h : b < W.heap.size) : b < x.1.heap.size + 1 + 1 := Nat.lt_succ_of_lt (x.lt1 h)
theorem Kin.lt3 (x : Kin W) {b : Nat} (h : b < W.heap.size) : b < x.1.heap.size + 1 + 1 + 1 := Nat.lt_succ_of_lt (x.lt2 h)
end
/-- a region that draws, in a world grown out of W -/
theorem wp_region_kinK {W w : World} {P : Program} {id : Nat} {Q : Exit → Act → World → Prop} {a : Act} {l : List Oper} (hm : P.follows .mixedOrders = true) (hB : Region.lexB .any l.toArray = true) (hw : Below W.heap.size W w)
    (h : wpQuiet P l.toArray (fun w' => ∃ z : Kin w, w' = z.1) (fun a' => ∀ zq : Kin W, Below w.heap.size w zq.1 → Q .normal a' zq.1) l a) : (Code.region id l.toArray true).wp P Q a w := by
  refine wp_region_kin0 hm hB ?_
  have : (fun a' => ∀ zq : Kin W, Below w.heap.size w zq.1 → Q .normal a' zq.1) = (fun a' => ∀ w', (∃ z : Kin w, w' = z.1) → Q .normal a' w') := by
    funext a'
    apply propext
    constructor
    · rintro h w' ⟨z, rfl⟩; exact h ⟨z.1, hw.trans (z.2.mono hw.size)⟩ z.2
    · intro h zq hz; exact h _ ⟨⟨zq.1, hz⟩, rfl⟩
  rw [← this]; exact h
theorem wp_region_tailK {W w : World} {P : Program} {id : Nat} {Q : Exit → Act → World → Prop} {a : Act} {l : List Oper} (n : Nat) (hm : P.follows .mixedOrders = true) (hB : Region.lexTailB .any l.toArray n = true) (hw : Below W.heap.size W w)
    (h : wpQuiet P l.toArray (fun w' => ∃ z : Kin w, w' = z.1) (fun a' => ∀ zq : Kin W, Below w.heap.size w zq.1 → wpList P l.toArray Q (l.drop n) a' zq.1) (l.take n) a) : (Code.region id l.toArray true).wp P Q a w := by
  refine wp_region_kin_tail n hm hB ?_
  have : (fun a' => ∀ zq : Kin W, Below w.heap.size w zq.1 → wpList P l.toArray Q (l.drop n) a' zq.1) = (fun a' => ∀ w', (∃ z : Kin w, w' = z.1) → wpList P l.toArray Q (l.drop n) a' w') := by
    funext a'
    apply propext
    constructor
    · rintro h w' ⟨z, rfl⟩; exact h ⟨z.1, hw.trans (z.2.mono hw.size)⟩ z.2
    · intro h zq hz; exact h _ ⟨⟨zq.1, hz⟩, rfl⟩
  rw [← this]; exact h
/-- a call that changes blocks from a base on alone -/
theorem Kin.callB {W w : World} {P : Program} {f : FuncId} {args : Array Value} {R : Ending → World → Prop} (hw : Below W.heap.size W w)
    (h : Calls P f args w fun e w' => R e w' ∧ Below W.heap.size w w') : Calls P f args w fun e w' => ∃ z : Kin W, R e z.1 ∧ z.1 = w' :=
  h.mono fun _ w' ⟨he, hb⟩ => ⟨⟨w', hw.trans hb⟩, he, rfl⟩
theorem run_mkf (P : Program) (fn : Fn) (first cap : Array Value) (w : World) : (Instr.makeFunc fn first cap).run P w = .ok (.func fn first cap) w := rfl
/-- a call, in a world grown out of W: the world behind it has grown out of W too, and out of the one that it got -/
theorem Kin.callK {W w : World} {P : Program} {f : FuncId} {args : Array Value} {R : Ending → World → Prop} (hw : Below W.heap.size W w)
    (h : Calls P f args w fun e w' => R e w' ∧ Below w.heap.size w w') : Calls P f args w fun e w' => ∃ z : Kin W, R e z.1 ∧ Below w.heap.size w z.1 ∧ z.1 = w' :=
  h.mono fun _ w' ⟨he, hb⟩ => ⟨⟨w', hw.trans (hb.mono hw.size)⟩, he, hb, rfl⟩
def encI (x : Int) : List Value := [.int .i64 x]
theorem encI_len (x : Int) : (encI x).length = 1 := rfl
theorem infoInt : (Tryz.prog.info? 3).map (fun i => (i.zero, i.size, i.bytes)) = some (some (.int .i64 0), 1, 8) := by kernel_rfl
end Go.Proofs.YtneelidbgigehaaGreat
/- append onto a slice of the call's own, from a slice that reads as a list. -/
namespace Go.Proofs.YtneelidbgigehaaGreat
set_option linter.unusedSimpArgs false
set_option linter.unusedVariables false
open Go.RowKit
theorem run_append_of_nil' {P : Program} (w : World) (base : Nat) (t ty e : TypeId) (i : TypeInfo) (size : Nat) (ht : P.underlying t = some (.slice e)) (hi : P.info? e = some i)
    (v : Value) (n : Nat) (xs : List Value) (hown : w.ownsRow base e size v n xs) (c : Nat) : (Builtin.append_ #[t, t] ty #[v, .slice none 0 c]).run P w = .ok v w := by
  rcases hown.2 with ⟨rfl, rfl⟩ | ⟨g, cap, cur, rfl, _, _, hnc, _⟩
  · simp [Builtin.append_, run_underlying ht, sizeOf, typeInfo, hi, Builtin.lenOf, Builtin.firstCells]
  · simp [Builtin.append_, run_underlying ht, sizeOf, typeInfo, hi, Builtin.lenOf, Builtin.firstCells, hnc, storeCells]
/-- the list x :: .. that a slice value lies over, cell by cell -/
theorem Rd.flat {α : Type} {k : Nat} {enc : α → List Value} {W : World} {A : Option Addr} {n c : Nat} {xs : List α} (hk : ∀ x, (enc x).length = k) (hk0 : 0 < k) (h : Rd k enc W (.slice A n c) xs) :
    n = xs.length ∧ (xs = [] ∨ ∃ b off, A = some ⟨b, off, none⟩ ∧ ∀ j u, (xs.flatMap enc)[j]? = some u → W.cell? ((⟨b, off, none⟩ : Addr).add j) = some u) := by
  obtain ⟨A', cap, hv, _, h⟩ := h
  injection hv with h1 h2 h3
  subst h1 h2
  refine ⟨rfl, ?_⟩
  rcases h with h | ⟨b, off, hA, hlt, hc⟩
  · exact .inl h
  · refine .inr ⟨b, off, hA, fun j u hu => ?_⟩
    have hj : j < xs.length * k := by rw [← flat_len hk]; exact (List.getElem?_eq_some_iff.1 hu).1
    have hq : j / k < xs.length := (Nat.div_lt_iff_lt_mul hk0).2 hj
    have hr : j % k < (enc xs[j / k]).length := by rw [hk]; exact Nat.mod_lt _ hk0
    have h2 := flat_get hk xs (j / k) xs[j / k] (List.getElem?_eq_getElem hq) (j % k) _ (List.getElem?_eq_getElem hr)
    have e : j / k * k + j % k = j := by rw [Nat.mul_comm]; exact Nat.div_add_mod j k
    rw [e, hu] at h2
    have h3 := hc (j / k) xs[j / k] (List.getElem?_eq_getElem hq) (j % k) u (by rw [List.getElem?_eq_getElem hr]; exact h2.symm)
    have e2 : ((⟨b, off, none⟩ : Addr).add j) = ⟨b, off + j / k * k + j % k, none⟩ := by
      unfold Addr.add; split
      · rename_i h0; subst h0; simp
      · simp only [Addr.mk.injEq, true_and, and_true]; omega
    rw [e2]; exact h3
/-- a slice whose elements are made of single cells -/
def OneC {α : Type} (enc : α → List Value) : Prop := ∀ x, ∀ u ∈ enc x, u.oneCell' = true
section
variable {P : Program} {α : Type} {enc : α → List Value} {size : Nat}
theorem own_len (hk : ∀ x, (enc x).length = size) (hk0 : 0 < size) {w : World} {base : Nat} {e : TypeId} {v : Value} {n : Nat} {xs : List α} (h : w.ownsRow base e size v n (xs.flatMap enc)) : n = xs.length := by
  have := h.1
  rw [flat_len hk] at this
  exact (Nat.eq_of_mul_eq_mul_right hk0 this).symm
theorem run_app (w : World) (hk : ∀ x, (enc x).length = size) (hk0 : 0 < size) (h1 : OneC enc) (base : Nat) (t ty e : TypeId) (z : Value) (bytes : Nat)
    (hinfo : (P.info? e).map (fun i => (i.zero, i.size, i.bytes)) = some (some z, size, bytes)) (hzs : z.cells.size = size) (ht : P.underlying t = some (.slice e))
    (v : Value) (n : Nat) (xs ys : List α) (hown : w.ownsRow base e size v n (xs.flatMap enc)) (A : Option Addr) (m c : Nat) (hr : Rd size enc w (.slice A m c) ys)
    (hmax : n + m ≤ 1099511627776) (hbytes : bytes ≤ 128) (hbase : base ≤ w.heap.size) :
    ∃ v' w', (Builtin.append_ #[t, t] ty #[v, .slice A m c]).run P w = .ok v' w' ∧ w'.ownsRow base e size v' (xs ++ ys).length ((xs ++ ys).flatMap enc) ∧ w.grownBy w' v.ownBlock ∧ Below base w w' ∧
      (v'.ownBlock = v.ownBlock ∨ v'.ownBlock = some w.heap.size) := by
  obtain rfl : n = xs.length := own_len hk hk0 hown
  obtain ⟨i0, hi, hz0, hz1, hz2⟩ := info_parts hinfo
  obtain ⟨hm, hr2⟩ := hr.flat hk hk0
  subst hm
  have hlt : ∀ k, v.ownBlock = some k → base ≤ k := fun k hk => (hown.lt k hk).1
  have hmul : (xs.length + ys.length) * bytes ≤ 140737488355328 := Nat.le_trans (Nat.mul_le_mul hmax hbytes) (by decide)
  have key : ∀ (b off : Nat), A = some ⟨b, off, none⟩ → (∀ j u, (ys.flatMap enc)[j]? = some u → w.cell? ((⟨b, off, none⟩ : Addr).add j) = some u) →
      ∃ v' w', (Builtin.append_ #[t, t] ty #[v, .slice A ys.length c]).run P w = .ok v' w' ∧ w'.ownsRow base e size v' (xs ++ ys).length ((xs ++ ys).flatMap enc) ∧ w.grownBy w' v.ownBlock ∧ Below base w w' ∧
      (v'.ownBlock = v.ownBlock ∨ v'.ownBlock = some w.heap.size) := by
    intro b off hA hc
    subst hA
    obtain ⟨v', w', hrun, h2, h3, _, h5⟩ := run_append_own_at (P := P) w base t ty e i0 z size bytes ht hi hz0 hz1 hz2 hzs hk0 v xs.length _ hown ⟨b, off, none⟩ ys.length c (ys.flatMap enc) (flat_len hk ys) hc (fun u hu => by
      obtain ⟨x, _, hx⟩ := List.mem_flatMap.1 hu
      exact h1 x u hx) (by unfold maxLen; omega) hmul hbase
    exact ⟨v', w', hrun, by rw [List.length_append, List.flatMap_append]; exact h2, h3, (Below.refl _ _).grown h3 hbase hlt, h5⟩
  clear hr
  rcases hr2 with rfl | ⟨b, off, hA, hc⟩
  · rcases A with _ | ⟨b, off, s⟩
    · exact ⟨v, w, run_append_of_nil' w base t ty e i0 size ht hi v _ _ hown c, by simpa using hown, World.grownBy.refl w _, Below.refl _ _, .inl rfl⟩
    · obtain ⟨v', w', hrun, h2, h3, _, h5⟩ := run_append_own_at (P := P) w base t ty e i0 z size bytes ht hi hz0 hz1 hz2 hzs hk0 v xs.length _ hown ⟨b, off, s⟩ 0 c [] (by simp) (by simp) (by simp) (by unfold maxLen; omega) (by simpa using hmul) hbase
      exact ⟨v', w', hrun, by simpa using h2, h3, (Below.refl _ _).grown h3 hbase hlt, h5⟩
  · exact key b off hA hc
theorem wp_app (w : World) {o : Oper} {a : Act} {K : Act → World → Prop} {Q : Exit → Act → World → Prop} (s x : Operand) (t : TypeId)
    (ho : o.op = .call { callee := .builtin .append, args := #[s, x], argTypes := #[t, t] })
    (hk : ∀ x, (enc x).length = size) (hk0 : 0 < size) (h1 : OneC enc) (base : Nat) (e : TypeId) (z : Value) (bytes : Nat)
    (hinfo : (P.info? e).map (fun i => (i.zero, i.size, i.bytes)) = some (some z, size, bytes)) (hzs : z.cells.size = size) (ht : P.underlying t = some (.slice e))
    (v : Value) (n : Nat) (xs ys : List α) (hs : a.eval s = v) (hown : w.ownsRow base e size v n (xs.flatMap enc)) (A : Option Addr) (m c : Nat) (hx : a.eval x = .slice A m c) (hr : Rd size enc w (.slice A m c) ys)
    (hmax : n + m ≤ 1099511627776) (hbytes : bytes ≤ 128) (hbase : base ≤ w.heap.size)
    (h : ∀ v' w', w'.ownsRow base e size v' (xs ++ ys).length ((xs ++ ys).flatMap enc) → w.grownBy w' v.ownBlock → Below base w w' → (v'.ownBlock = v.ownBlock ∨ v'.ownBlock = some w.heap.size) → K (a.put o.dst v') w') : o.wp P a w K Q := by
  obtain ⟨v', w', hrun, h2, h3, h4, h5⟩ := run_app (P := P) w hk hk0 h1 base t o.type e z bytes hinfo hzs ht v n xs ys hown A m c hr hmax hbytes hbase
  unfold Oper.wp execOp
  simp only [ho, resolve, invoke, builtin, Sem.run_bind, Sem.run_pure, Result.andThen_ok, List.map_toArray, List.map_cons, List.map_nil, hs, hx, hrun]
  exact h v' w' h2 h3 h4 h5
theorem wpList_app (w : World) {ops : Array Oper} {rest : List Oper} {o : Oper} {a : Act} {Q : Exit → Act → World → Prop} (hgd : o.guard = none) (s x : Operand) (t : TypeId)
    (ho : o.op = .call { callee := .builtin .append, args := #[s, x], argTypes := #[t, t] })
    (hk : ∀ x, (enc x).length = size) (hk0 : 0 < size) (h1 : OneC enc) (base : Nat) (e : TypeId) (z : Value) (bytes : Nat)
    (hinfo : (P.info? e).map (fun i => (i.zero, i.size, i.bytes)) = some (some z, size, bytes)) (hzs : z.cells.size = size) (ht : P.underlying t = some (.slice e))
    (v : Value) (n : Nat) (xs ys : List α) (hs : a.eval s = v) (hown : w.ownsRow base e size v n (xs.flatMap enc)) (A : Option Addr) (m c : Nat) (hx : a.eval x = .slice A m c) (hr : Rd size enc w (.slice A m c) ys)
    (hmax : n + m ≤ 1099511627776) (hbytes : bytes ≤ 128) (hbase : base ≤ w.heap.size)
    (h : ∀ v' w', w'.ownsRow base e size v' (xs ++ ys).length ((xs ++ ys).flatMap enc) → w.grownBy w' v.ownBlock → Below base w w' → (v'.ownBlock = v.ownBlock ∨ v'.ownBlock = some w.heap.size) → wpList P ops Q rest (a.put o.dst v') w') : wpList P ops Q (o :: rest) a w :=
  wpList_plain hgd fun _ hK => wp_app w s x t ho hk hk0 h1 base e z bytes hinfo hzs ht v n xs ys hs hown A m c hx hr hmax hbytes hbase fun v' w' h2 h3 h4 h5 => hK _ _ (h v' w' h2 h3 h4 h5)
/-- append as one step of a region that draws -/
theorem step_app (w : World) {ops : Array Oper} {o : Oper} {a : Act} {K : Act → World → Prop} {Q : Exit → Act → World → Prop} {E : Prop} (hgd : o.guard = none) (s x : Operand) (t : TypeId)
    (ho : o.op = .call { callee := .builtin .append, args := #[s, x], argTypes := #[t, t] })
    (hk : ∀ x, (enc x).length = size) (hk0 : 0 < size) (h1 : OneC enc) (base : Nat) (e : TypeId) (z : Value) (bytes : Nat)
    (hinfo : (P.info? e).map (fun i => (i.zero, i.size, i.bytes)) = some (some z, size, bytes)) (hzs : z.cells.size = size) (ht : P.underlying t = some (.slice e))
    (v : Value) (n : Nat) (xs ys : List α) (hs : a.eval s = v) (hown : w.ownsRow base e size v n (xs.flatMap enc)) (A : Option Addr) (m c : Nat) (hx : a.eval x = .slice A m c) (hr : Rd size enc w (.slice A m c) ys)
    (hmax : n + m ≤ 1099511627776) (hbytes : bytes ≤ 128) (hbase : base ≤ w.heap.size)
    (h : ∀ v' w', w'.ownsRow base e size v' (xs ++ ys).length ((xs ++ ys).flatMap enc) → w.grownBy w' v.ownBlock → Below base w w' → (v'.ownBlock = v.ownBlock ∨ v'.ownBlock = some w.heap.size) → K (a.put o.dst v') w') : if Region.wanted o (yielded ops a.tmps) = true then Oper.wp P o a w K Q else E := by
  have hw : Region.wanted o (yielded ops a.tmps) = true := by simp [Region.wanted, hgd]
  rw [if_pos hw]
  exact wp_app w s x t ho hk hk0 h1 base e z bytes hinfo hzs ht v n xs ys hs hown A m c hx hr hmax hbytes hbase h
/-- a new block reads as a list -/
theorem own_made (w : World) (hk : ∀ x, (enc x).length = size) (base : Nat) (e : TypeId) (xs : List α) (cs : Array Value) (hc : cs = (xs.flatMap enc).toArray) (hb : base ≤ w.heap.size) (hm : xs.length ≤ maxLen) :
    (w.alloc (.cells cs e)).ownsRow base e size (.slice (some ⟨w.heap.size, 0, none⟩) xs.length xs.length) xs.length (xs.flatMap enc) :=
  ⟨flat_len hk xs, .inr ⟨w.heap.size, xs.length, cs, rfl, hb, heap_alloc_new w _, Nat.le_refl _, hm, by rw [hc]; simp [flat_len hk], by rw [hc, ← flat_len hk xs]; exact List.take_length⟩⟩
theorem rd_made (w : World) (hk : ∀ x, (enc x).length = size) (e : TypeId) (xs : List α) (cs : Array Value) (hc : cs = (xs.flatMap enc).toArray) (hm : xs.length ≤ maxLen) :
    Rd size enc (w.alloc (.cells cs e)) (.slice (some ⟨w.heap.size, 0, none⟩) xs.length xs.length) xs := Rd.own hk (own_made w hk 0 e xs cs hc (Nat.zero_le _) hm)
/-- the one element that append puts behind the others -/
theorem rd_one (w : World) (hk : ∀ x, (enc x).length = size) (e : TypeId) (x : α) (cs : Array Value) (hc : cs = (enc x).toArray) {b : Nat} (hb : b = w.heap.size := by simp) :
    Rd size enc (w.alloc (.cells cs e)) (.slice (some ⟨b, 0, none⟩) 1 1) [x] := by subst hb; exact rd_made w hk e [x] cs (by simpa using hc) (by unfold maxLen; simp)
/-- a list that is written out -/
theorem rd_lit (w : World) (hk : ∀ x, (enc x).length = size) (e : TypeId) (xs : List α) {cs : Array Value} {b n : Nat} (hc : cs = (xs.flatMap enc).toArray := by with_unfolding_all rfl) (hm : xs.length ≤ maxLen := by with_unfolding_all decide) (hb : b = w.heap.size := by simp) (hn : n = xs.length := by with_unfolding_all rfl) :
    Rd size enc (w.alloc (.cells cs e)) (.slice (some ⟨b, 0, none⟩) n n) xs := by subst hb hn; exact rd_made w hk e xs cs hc hm
theorem Rd.own' (hk : ∀ x, (enc x).length = size) (hk0 : 0 < size) {w : World} {base : Nat} {e : TypeId} {v : Value} {n : Nat} {xs : List α} (h : w.ownsRow base e size v n (xs.flatMap enc)) : Rd size enc w v xs := by
  have := own_len hk hk0 h
  subst this
  exact Rd.own hk h
theorem own_some {w : World} {base g n cap : Nat} {e : TypeId} {cs : List Value} (h : w.ownsRow base e size (.slice (some ⟨g, 0, none⟩) n cap) n cs) (j : Nat) (hj : j < n * size) : ∃ u, w.cell? ⟨g, j, none⟩ = some u :=
  ⟨_, (h.cellAt j (by first | exact hj | (rw [h.1]; exact hj))).trans (List.getElem?_eq_getElem (by rw [h.1]; exact hj))⟩
theorem own_base {w : World} {base base' : Nat} {e : TypeId} {v : Value} {n : Nat} {cs : List Value} (h : w.ownsRow base e size v n cs) (hb : base' ≤ base) : w.ownsRow base' e size v n cs :=
  ⟨h.1, h.2.imp id fun ⟨g, cap, cur, e1, e2, r⟩ => ⟨g, cap, cur, e1, Nat.le_trans hb e2, r⟩⟩
end
theorem flat_rep {α : Type} {enc : α → List Value} {size : Nat} (hk : ∀ x, (enc x).length = size) (hk0 : 0 < size) (z : Value) (x0 : α) (hz : z.cells.toList = enc x0) (n : Nat) : (madeCells z.cells (n * size)).toList = (List.replicate n x0).flatMap enc := by
  have hs : z.cells.size = size := by rw [← Array.length_toList, hz, hk]
  apply List.ext_getElem?
  intro j
  by_cases hj : j < n * size
  · have hq : j / size < n := (Nat.div_lt_iff_lt_mul hk0).2 hj
    have hr : j % size < (enc x0).length := by rw [hk]; exact Nat.mod_lt _ hk0
    have h2 := flat_get hk (List.replicate n x0) (j / size) x0 (by simp [hq]) (j % size) _ (List.getElem?_eq_getElem hr)
    have e : j / size * size + j % size = j := by rw [Nat.mul_comm]; exact Nat.div_add_mod j size
    rw [e] at h2
    have hr2 : j % z.cells.size < z.cells.size := by rw [hs]; exact Nat.mod_lt _ hk0
    have h3 : z.cells[j % z.cells.size]? = (enc x0)[j % size]? := by rw [← hz, Array.getElem?_toList, hs]
    rw [h2, Array.getElem?_toList]
    simp [madeCells, hj]
    have h4 := h3
    rw [List.getElem?_eq_getElem hr] at h4
    obtain ⟨hx, hx2⟩ := Array.getElem?_eq_some_iff.1 h4
    first
      | exact hx2
      | (rw [getElem!_pos _ _ hx]; exact hx2)
      | (rw [Array.getD, dif_pos hx]; exact hx2)
      | (rw [getElem!_def, h4])
  · rw [List.getElem?_eq_none (by simp [madeCells]; omega), List.getElem?_eq_none (by rw [flat_len hk]; simp; omega)]
theorem wpList_mk {P : Program} {α : Type} {enc : α → List Value} {size : Nat} (w : World) {ops : Array Oper} {rest : List Oper} {o : Oper} {a : Act} {Q : Exit → Act → World → Prop}
    (hg : o.guard = none) (l c : Operand) (t : TypeId) (hop : o.op = Op.makeSlice t l c) (hk : ∀ x, (enc x).length = size) (hk0 : 0 < size) (x0 : α)
    (base : Nat) (e : TypeId) (z : Value) (bytes : Nat) (hz : z.cells.toList = enc x0) (hinfo : (P.info? e).map (fun i => (i.zero, i.size, i.bytes)) = some (some z, size, bytes)) (h1 : P.underlying t = some (.slice e))
    (kl kc : IntKind) (L C : Int) (n : Nat) (hl : a.eval l = .int kl L) (hc : a.eval c = .int kc C) (hL : L = (n : Int)) (hC : C = (n : Int)) (hn : n ≤ 1099511627776) (hb : bytes ≤ 128) (b4 : base ≤ w.heap.size)
    (hK : ∀ w', w'.ownsRow base e size (.slice (some ⟨w.heap.size, 0, none⟩) n n) n ((List.replicate n x0).flatMap enc) → Below w.heap.size w w' → w.heap.size < w'.heap.size → wpList P ops Q rest (a.put o.dst (.slice (some ⟨w.heap.size, 0, none⟩) n n)) w') :
    wpList P ops Q (o :: rest) a w := by
  obtain ⟨i0, hi, hz0, hz1, hz2⟩ := info_parts hinfo
  refine wpList_make_full w hg l c t hop base e i0 z size h1 hi hz0 hz1 kl kc L C n hl hc hL hC (by rw [hz2]; exact Nat.le_trans (Nat.mul_le_mul hb hn) (by decide)) (by unfold maxLen; omega) b4 fun w' h2 h3 => ?_
  rw [flat_rep hk hk0 z x0 hz] at h2
  exact hK w' h2 ((Below.refl _ w).grown h3 (Nat.le_refl _) (fun k e => by cases e)) (h2.lt _ rfl).2
theorem flat_set1 {α : Type} {enc : α → List Value} {a : Value} {y : α} (hk : ∀ x, (enc x).length = 1) (hy : enc y = [a]) : ∀ (xs : List α) (i : Nat), i < xs.length → (xs.flatMap enc).set i a = (xs.set i y).flatMap enc
  | [], i, h => by simp at h
  | x :: xs, 0, _ => by
    have h1 := hk x
    match hx : enc x, h1 with
    | [c], _ => simp [hx, hy]
  | x :: xs, i + 1, h => by
    have h1 := hk x
    match hx : enc x, h1 with
    | [c], _ =>
      have := flat_set1 hk hy xs i (by simpa using h)
      simp only [List.flatMap_cons, hx, List.cons_append, List.nil_append, List.set_cons_succ]
      rw [this]
theorem own_set1 {α : Type} {enc : α → List Value} {w : World} {base g n cap : Nat} {e : TypeId} {xs : List α} {a : Value} {y : α} (hk : ∀ x, (enc x).length = 1) (hy : enc y = [a])
    (h : w.ownsRow base e 1 (.slice (some ⟨g, 0, none⟩) n cap) n (xs.flatMap enc)) (i : Nat) (hi : i < n) :
    (w.setCell ⟨g, i, none⟩ a).ownsRow base e 1 (.slice (some ⟨g, 0, none⟩) n cap) n ((xs.set i y).flatMap enc) := by
  have hn := own_len hk (by decide) h
  have := (h.stored i a).1
  rwa [flat_set1 hk hy xs i (by omega)] at this
/-- equality of two pairs of numbers, as Go computes it -/
def eqp (p q : Int × Int) : Bool := p.1 == q.1 && p.2 == q.2
theorem eqp_iff (p q : Int × Int) : eqp p q = true ↔ p = q := by simp [eqp, Prod.ext_iff]
theorem eqp_no (p q : Int × Int) : eqp p q = false ↔ p ≠ q := by rw [← Bool.not_eq_true, eqp_iff]
theorem oneI : OneC encI := fun x u hu => by simp [encI] at hu; subst hu; rfl
end Go.Proofs.YtneelidbgigehaaGreat
/- A block of memory that is known whole. -/
namespace Go.Proofs.YtneelidbgigehaaGreat
set_option linter.unusedSimpArgs false
set_option linter.unusedVariables false
open Go.RowKit
/-- the elements of a slice whose address is named already -/
theorem Rd.op {α : Type} {k : Nat} {enc : α → List Value} {W : World} {A : Option Addr} {n cap : Nat} {xs : List α} (h : Rd k enc W (.slice A n cap) xs) : ∀ (i : Nat) (x : α), xs[i]? = some x → ∃ b off, A = some ⟨b, off, none⟩ ∧ b < W.heap.size ∧
    ∀ (i : Nat) (x : α), xs[i]? = some x → ∀ (j : Nat) (u : Value), (enc x)[j]? = some u → W.cell? ⟨b, off + i * k + j, none⟩ = some u := by
  obtain ⟨A', cap', hv, _, ho⟩ := h.open_
  injection hv with h1
  subst h1
  exact ho
def Blk (w : World) (g : Nat) (t : TypeId) (cs : Array Value) : Prop := w.heap[g]? = some (.cells cs t (0, 0))
section
variable {w w' : World} {g : Nat} {t : TypeId} {cs : Array Value}
theorem Blk.lt (h : Blk w g t cs) : g < w.heap.size := (Array.getElem?_eq_some_iff.1 h).1
theorem Blk.cell (h : Blk w g t cs) (i : Nat) : w.cell? ⟨g, i, none⟩ = cs[i]? := cell_of_row w g i cs t (0, 0) h
theorem Blk.frozen (h : Blk w g t cs) (i : Nat) : w.frozen? ⟨g, i, none⟩ = false := by
  unfold Blk at h
  simp [World.frozen?, h]
theorem Blk.new (w : World) (t : TypeId) (cs : Array Value) : Blk (w.alloc (.cells cs t)) w.heap.size t cs := heap_alloc_new w _
theorem Blk.below (h : Blk w g t cs) (hb : Below w.heap.size w w') : Blk w' g t cs := (hb.block g h.lt).trans h
theorem Blk.grown {row : Option Nat} (h : Blk w g t cs) (hb : w.grownBy w' row) (hg : some g ≠ row) : Blk w' g t cs := (hb.block g h.lt hg).trans h
theorem Blk.set_ (h : Blk w g t cs) (i : Nat) (u : Value) : Blk (w.setCell ⟨g, i, none⟩ u) g t (cs.setIfInBounds i u) := by
  unfold Blk at h ⊢
  simp [World.setCell, Array.getElem?_modify, h]
theorem Blk.far (h : Blk w g t cs) {p : Addr} (hp : g ≠ p.block) (u : Value) : Blk (w.setCell p u) g t cs := (Below.heap_setCell w p u g hp).trans h
theorem Blk.ne_ {g' : Nat} {t' : TypeId} {cs' : Array Value} (h : Blk w g t cs) (h' : Blk w g' t' cs') (hne : t ≠ t') : g ≠ g' := by
  rintro rfl
  have := (show some _ = some _ from h.symm.trans h')
  injection this with e
  injection e with _ e
  exact hne e
/-- a row of elements of another type lies elsewhere -/
theorem own_ne {base : Nat} {e : TypeId} {size n : Nat} {v : Value} {xs : List Value} (h : w.ownsRow base e size v n xs) (hg : Blk w g t cs) (hne : e ≠ t) : v.ownBlock ≠ some g := by
  rcases h.2 with ⟨rfl, _⟩ | ⟨g', cap, cur, rfl, _, hh, _⟩
  · simp [Value.ownBlock]
  · intro he
    have : g' = g := by simpa [Value.ownBlock] using he
    subst this
    exact Blk.ne_ (t := e) hh hg hne rfl
theorem own_grownBy {base : Nat} {e : TypeId} {size n : Nat} {v : Value} {xs : List Value} {p : Nat} (h : w.ownsRow base e size v n xs) (hg : w.grownBy w' (some p)) (hne : v.ownBlock ≠ some p) : w'.ownsRow base e size v n xs :=
  h.kept hg (.inr hne)
/-- behind an append onto a row of another type -/
theorem blk_app {w1 : World} {v : Value} {base n size : Nat} {e : TypeId} {xs : List Value} (hg : w'.grownBy w1 v.ownBlock) (hne : e ≠ t) (hb : Below w.heap.size w w') (hown : w'.ownsRow base e size v n xs) (h : Blk w g t cs) : Blk w1 g t cs :=
  (h.below hb).grown hg (Ne.symm (own_ne hown (h.below hb) hne))
theorem grownBy_below {p B : Nat} (h : w.grownBy w' (some p)) (hB : B ≤ w.heap.size) (hp : B ≤ p) : Below B w w' :=
  (Below.refl _ _).grown h hB (fun k e => by injection e with e; omega)
theorem below_grownBy {row : Option Nat} (h : Below w.heap.size w w') : w.grownBy w' row := ⟨h.os, h.tape, h.output, h.size, fun k hk _ => h.block k hk⟩
theorem grownBy_trans {w'' : World} {row : Option Nat} (h : w.grownBy w' row) (h' : w'.grownBy w'' row) : w.grownBy w'' row :=
  ⟨h'.os.trans h.os, h'.tape.trans h.tape, h'.output.trans h.output, Nat.le_trans h.size h'.size, fun k hk hr => (h'.block k (Nat.lt_of_lt_of_le hk h.size) hr).trans (h.block k hk hr)⟩
theorem grownBy_set {p : Addr} (u : Value) : w.grownBy (w.setCell p u) (some p.block) :=
  ⟨rfl, rfl, rfl, by simp [World.setCell], fun k hk hr => Below.heap_setCell w p u k (fun e => hr (by rw [e]))⟩
end
end Go.Proofs.YtneelidbgigehaaGreat
/- Slices of structs that hold a slice: read, and built up by the call. -/
namespace Go.Proofs.YtneelidbgigehaaGreat
set_option linter.unusedSimpArgs false
set_option linter.unusedVariables false
open Go.RowKit
/-- what reads as a list reads so behind a change of one block alone, if it lies elsewhere -/
theorem Rd.grown {α : Type} {k : Nat} {enc : α → List Value} {W W' : World} {v : Value} {xs : List α} {row : Option Nat} (h : Rd k enc W v xs) (hg : W.grownBy W' row) (hne : xs = [] ∨ v.ownBlock ≠ row) : Rd k enc W' v xs := by
  obtain ⟨A, cap, hv, hc, h⟩ := h
  refine ⟨A, cap, hv, hc, ?_⟩
  rcases hne with hne | hne
  · exact .inl hne
  rcases h with h | ⟨b, off, hA, hlt, hcell⟩
  · exact .inl h
  · refine .inr ⟨b, off, hA, Nat.lt_of_lt_of_le hlt hg.size, fun i x hx j u hu => ?_⟩
    refine (World.cell?_of_block (w := W) (hg.block b hlt ?_)).trans (hcell i x hx j u hu)
    subst hv hA
    exact fun e => hne e
/-- the block of a slice that has elements is there -/
theorem Rd.blk_lt {α : Type} {k : Nat} {enc : α → List Value} {W : World} {v : Value} {xs : List α} (h : Rd k enc W v xs) : xs = [] ∨ ∃ b, v.ownBlock = some b ∧ b < W.heap.size := by
  obtain ⟨A, cap, hv, hc, h⟩ := h
  rcases h with h | ⟨b, off, hA, hlt, hcell⟩
  · exact .inl h
  · exact .inr ⟨b, by rw [hv, hA]; rfl, hlt⟩
section
variable {H α β : Type} {k k2 : Nat} {encH : H → List Value} {sl : H → Value} {tag : H → α → Prop} {enc2 : β → List Value} {sub : α → List β}
/-- heads hs whose slices read as the lists of xs -/
def NestAt (sl : H → Value) (tag : H → α → Prop) (k2 : Nat) (enc2 : β → List Value) (sub : α → List β) (W : World) (hs : List H) (xs : List α) : Prop :=
  hs.length = xs.length ∧ ∀ (i : Nat) (h : H) (x : α), hs[i]? = some h → xs[i]? = some x → tag h x ∧ Rd k2 enc2 W (sl h) (sub x)
def RdN (k : Nat) (encH : H → List Value) (sl : H → Value) (tag : H → α → Prop) (k2 : Nat) (enc2 : β → List Value) (sub : α → List β) (W : World) (v : Value) (xs : List α) : Prop :=
  ∃ hs : List H, Rd k encH W v hs ∧ NestAt sl tag k2 enc2 sub W hs xs
theorem NestAt.below {W W' : World} {hs : List H} {xs : List α} (h : NestAt sl tag k2 enc2 sub W hs xs) (hb : Below W.heap.size W W') : NestAt sl tag k2 enc2 sub W' hs xs :=
  ⟨h.1, fun i y x hy hx => ⟨(h.2 i y x hy hx).1, (h.2 i y x hy hx).2.below hb⟩⟩
theorem RdN.below {W W' : World} {v : Value} {xs : List α} (h : RdN k encH sl tag k2 enc2 sub W v xs) (hb : Below W.heap.size W W') : RdN k encH sl tag k2 enc2 sub W' v xs := by
  obtain ⟨hs, h1, h2⟩ := h
  exact ⟨hs, h1.below hb, h2.below hb⟩
theorem RdN.nil {W : World} : RdN k encH sl tag k2 enc2 sub W (.slice none 0 0) [] := ⟨[], Rd.nil, rfl, fun i h x hh => by simp at hh⟩
theorem RdN.open_ {W : World} {v : Value} {xs : List α} (h : RdN k encH sl tag k2 enc2 sub W v xs) : ∃ (A : Option Addr) (cap : Nat), v = .slice A xs.length cap ∧ xs.length ≤ cap ∧
    ∀ (i : Nat) (x : α), xs[i]? = some x → ∃ b off, A = some ⟨b, off, none⟩ ∧ b < W.heap.size ∧
      ∀ (i : Nat) (x : α), xs[i]? = some x → ∃ h : H, tag h x ∧ Rd k2 enc2 W (sl h) (sub x) ∧ ∀ (j : Nat) (u : Value), (encH h)[j]? = some u → W.cell? ⟨b, off + i * k + j, none⟩ = some u := by
  obtain ⟨hs, h1, hl, h2⟩ := h
  obtain ⟨A, cap, hv, hc, ho⟩ := h1.open_
  refine ⟨A, cap, by rw [hv, hl], by omega, fun i x hx => ?_⟩
  have some_h : ∀ (i : Nat) (x : α), xs[i]? = some x → ∃ h, hs[i]? = some h := fun i x hx => by
    have := (List.getElem?_eq_some_iff.1 hx).1
    exact ⟨_, List.getElem?_eq_getElem (by omega)⟩
  obtain ⟨h, hh⟩ := some_h i x hx
  obtain ⟨b, off, hA, hb, hcell⟩ := ho i h hh
  refine ⟨b, off, hA, hb, fun i' x' hx' => ?_⟩
  obtain ⟨h', hh'⟩ := some_h i' x' hx'
  exact ⟨h', (h2 i' h' x' hh' hx').1, (h2 i' h' x' hh' hx').2, hcell i' h' hh'⟩
theorem RdN.op {W : World} {A : Option Addr} {n cap : Nat} {xs : List α} (h : RdN k encH sl tag k2 enc2 sub W (.slice A n cap) xs) : n = xs.length ∧ n ≤ cap ∧
    ∀ (i : Nat) (x : α), xs[i]? = some x → ∃ b off, A = some ⟨b, off, none⟩ ∧ b < W.heap.size ∧
      ∀ (i : Nat) (x : α), xs[i]? = some x → ∃ h : H, tag h x ∧ Rd k2 enc2 W (sl h) (sub x) ∧ ∀ (j : Nat) (u : Value), (encH h)[j]? = some u → W.cell? ⟨b, off + i * k + j, none⟩ = some u := by
  obtain ⟨A', cap', hv, hc, ho⟩ := h.open_
  injection hv with h1 h2 h3
  subst h1 h2 h3
  exact ⟨rfl, hc, ho⟩
/-- built by the call: the heads lie in a row of its own, the slices elsewhere -/
def OwnN (base : Nat) (e : TypeId) (k : Nat) (encH : H → List Value) (sl : H → Value) (tag : H → α → Prop) (k2 : Nat) (enc2 : β → List Value) (sub : α → List β) (W : World) (v : Value) (xs : List α) : Prop :=
  ∃ hs : List H, W.ownsRow base e k v hs.length (hs.flatMap encH) ∧ NestAt sl tag k2 enc2 sub W hs xs ∧ ∀ (i : Nat) (h : H) (x : α), hs[i]? = some h → xs[i]? = some x → sub x = [] ∨ (sl h).ownBlock ≠ v.ownBlock
theorem OwnN.nil {W : World} {base : Nat} {e : TypeId} : OwnN base e k encH sl tag k2 enc2 sub W (.slice none 0 0) [] :=
  ⟨[], World.ownsRow_nil _ _ _ _, ⟨rfl, fun i h x hh => by simp at hh⟩, fun i h x hh => by simp at hh⟩
theorem OwnN.rd (hk : ∀ x, (encH x).length = k) {W : World} {base : Nat} {e : TypeId} {v : Value} {xs : List α} (h : OwnN base e k encH sl tag k2 enc2 sub W v xs) : RdN k encH sl tag k2 enc2 sub W v xs := by
  obtain ⟨hs, h1, h2, _⟩ := h
  exact ⟨hs, Rd.own hk h1, h2⟩
theorem OwnN.below {W W' : World} {base : Nat} {e : TypeId} {v : Value} {xs : List α} (h : OwnN base e k encH sl tag k2 enc2 sub W v xs) (hb : Below W.heap.size W W') : OwnN base e k encH sl tag k2 enc2 sub W' v xs := by
  obtain ⟨hs, h1, h2, h3⟩ := h
  exact ⟨hs, own_below h1 hb, h2.below hb, h3⟩
/-- behind an append of one head whose slice lies elsewhere -/
theorem OwnN.snoc {W W' : World} {base : Nat} {e : TypeId} {v v' : Value} {xs : List α} {hs : List H} {h : H} {x : α}
    (hn : NestAt sl tag k2 enc2 sub W hs xs) (hap : ∀ (i : Nat) (h : H) (x : α), hs[i]? = some h → xs[i]? = some x → sub x = [] ∨ (sl h).ownBlock ≠ v.ownBlock)
    (hown : W'.ownsRow base e k v' (hs ++ [h]).length ((hs ++ [h]).flatMap encH)) (hg : W.grownBy W' v.ownBlock) (hat : v'.ownBlock = v.ownBlock ∨ v'.ownBlock = some W.heap.size)
    (ht : tag h x) (hr : Rd k2 enc2 W (sl h) (sub x)) (hx : sub x = [] ∨ (sl h).ownBlock ≠ v.ownBlock) : OwnN base e k encH sl tag k2 enc2 sub W' v' (xs ++ [x]) := by
  have far : ∀ {h : H} {x : α}, Rd k2 enc2 W (sl h) (sub x) → (sub x = [] ∨ (sl h).ownBlock ≠ v.ownBlock) → sub x = [] ∨ (sl h).ownBlock ≠ v'.ownBlock := fun {h x} hr hx => by
    rcases hx with hx | hx
    · exact .inl hx
    rcases hr.blk_lt with h0 | ⟨b, hb, hlt⟩
    · exact .inl h0
    · right
      rcases hat with h1 | h1
      · rw [h1]; exact hx
      · rw [h1, hb]; intro e; injection e with e; omega
  have hget : ∀ i h' x', (hs ++ [h])[i]? = some h' → (xs ++ [x])[i]? = some x' → (hs[i]? = some h' ∧ xs[i]? = some x') ∨ (h' = h ∧ x' = x) := fun i h' x' h1 h2 => by
    rcases Nat.lt_or_ge i hs.length with hlt | hge
    · left
      rw [List.getElem?_append_left hlt] at h1
      rw [List.getElem?_append_left (by rw [← hn.1]; exact hlt)] at h2
      exact ⟨h1, h2⟩
    · right
      rw [List.getElem?_append_right hge] at h1
      rw [List.getElem?_append_right (by rw [← hn.1]; exact hge)] at h2
      have : i - hs.length = 0 := by
        rcases Nat.eq_zero_or_pos (i - hs.length) with h0 | h0
        · exact h0
        · rw [List.getElem?_eq_none (by simp; omega)] at h1; cases h1
      rw [this] at h1
      rw [← hn.1, this] at h2
      simp at h1 h2
      exact ⟨h1.symm, h2.symm⟩
  refine ⟨hs ++ [h], hown, ⟨by simp [hn.1], fun i h' x' h1 h2 => ?_⟩, fun i h' x' h1 h2 => ?_⟩
  · rcases hget i h' x' h1 h2 with ⟨h3, h4⟩ | ⟨rfl, rfl⟩
    · exact ⟨(hn.2 i h' x' h3 h4).1, (hn.2 i h' x' h3 h4).2.grown hg (hap i h' x' h3 h4)⟩
    · exact ⟨ht, hr.grown hg hx⟩
  · rcases hget i h' x' h1 h2 with ⟨h3, h4⟩ | ⟨rfl, rfl⟩
    · exact far (hn.2 i h' x' h3 h4).2 (hap i h' x' h3 h4)
    · exact far hr hx
end
end Go.Proofs.YtneelidbgigehaaGreat

/- A region that draws its order: quiet operations (calls among them) ahead of a chain that may write: one walk serves every order. -/
import Derived.Test.YtfoedkdmckhihaaKit
import Derived.Deep.Quiet
import Derived.StillTail
namespace Go.Proofs.Ytfoedkdmckhihaa
set_option linter.unusedSimpArgs false
set_option linter.unusedVariables false
open Go.RowKit
section
variable {P : Program} {ops : Array Oper} {md : Region.Mode} {C : World → Prop}
/-- the head's operations come up in any order, each of them quiet; behind them L -/
def Heads (P : Program) (md : Region.Mode) (ops : Array Oper) (C : World → Prop) (n : Nat) (L : Array Bool → Act → Prop) : Nat → Array Bool → Act → Prop
  | 0, seen, a => L seen a
  | m + 1, seen, a => Region.ready md ops seen ≠ [] ∧ ∀ i ∈ Region.ready md ops seen, i < n ∧ qOp P ops C i (Heads P md ops C n L m (seen.setIfInBounds i true)) a
theorem Heads.any {n g : Nat} {L : Array Bool → Act → Prop} {Q : Exit → Act → World → Prop} (hL : ∀ seen a w, C w → L seen a → wpAny P md ops Q g seen a w) :
    ∀ (m : Nat) (seen : Array Bool) (a : Act) (w : World), C w → Heads P md ops C n L m seen a → wpAny P md ops Q (m + g) seen a w := by
  intro m
  induction m with
  | zero => intro seen a w hw h; rw [Nat.zero_add]; exact hL seen a w hw h
  | succ m ih =>
    intro seen a w hw h
    have e : m + 1 + g = (m + g) + 1 := by omega
    rw [e]
    exact ⟨fun h0 => absurd h0 h.1, fun i hi => wpOp_of_qOp hw (fun a' w' hw' h' => ih _ a' w' hw' h') (h.2 i hi).2⟩
/-- every operation from m to n - 1 is waited for by a later one, up to n -/
def sinkFrom (md : Region.Mode) (ops : Array Oper) (m n : Nat) : Bool := (List.range n).all fun i => decide (i < m) || (List.range (n + 1)).any fun j => decide (i < j) && Region.waitsFor md ops j i
/-- while a head is outstanding no operation of the tail comes up -/
theorem tail_held {m n : Nat} {seen : Array Bool} (hs : sinkFrom md ops m n = true) (hc : Region.chainB md ops n = true) (inv : HeadInv md ops n seen) :
    ∀ (d i : Nat), n - i = d → m ≤ i → i < n → seen.getD i true = false → ∀ t, n ≤ t → t ∉ Region.ready md ops seen := by
  intro d
  induction d using Nat.strongRecOn with
  | _ d ih =>
    intro i hd hmi hi hun t ht hr
    obtain ⟨_, ot, hot, hall⟩ := mem_ready.1 hr
    have htlt : t < ops.size := (Array.getElem?_eq_some_iff.1 hot).1
    have two : ∀ k, seen.getD k true = false → (∀ e ∈ ot.after, Region.binds md e = true → e.on = k → False) := fun k hk e he hb hon => by
      have := hall e he hb
      rw [hon, getD_both hk] at this
      cases this
    rcases Nat.eq_or_lt_of_le ht with h0 | h0
    · have h1 := List.all_eq_true.1 hs i (List.mem_range.2 hi)
      simp only [Bool.or_eq_true, decide_eq_true_eq] at h1
      rcases h1 with h1 | h1
      · omega
      obtain ⟨j, hj, hj2⟩ := List.any_eq_true.1 h1
      simp only [Bool.and_eq_true, decide_eq_true_eq] at hj2
      obtain ⟨oj, hoj, e, he, hb, hon⟩ := Region.waitsFor_spec hj2.2
      have hjle := List.mem_range.1 hj
      by_cases hjt : j = t
      · rw [hjt, hot] at hoj
        injection hoj with hoj
        subst hoj
        exact two i hun e he hb hon
      · cases hl : seen.getD j false with
        | true =>
          have h2 := inv.closed j oj hoj hl e he hb
          rw [hon, getD_both hun] at h2
          cases h2
        | false => exact ih (n - j) (by omega) j rfl (by omega) (by omega) (getD_in (by rw [inv.size]; omega) hl) t (by omega) hr
    · have h1 := List.all_eq_true.1 hc t (List.mem_range.2 htlt)
      simp only [Bool.or_eq_true, decide_eq_true_eq] at h1
      rcases h1 with h1 | h1
      · omega
      · obtain ⟨o', ho', e, he, hb, hon⟩ := Region.waitsFor_spec h1
        rw [hot] at ho'
        injection ho' with ho'
        subst ho'
        exact two (t - 1) (inv.tail (t - 1) (by omega) (by omega)) e he hb hon
/-- what has been shown of operation i, first in line, holds in whatever place it comes up -/
theorem Heads.first {m0 n i : Nat} {o : Oper} {v : Value} {L : Array Bool → Act → Prop} (hi : ops[i]? = some o) (hsel : ∀ (j : Nat) (o : Oper) cs b, ops[j]? = some o → o.op ≠ .select cs b)
    (hs : sinkFrom md ops m0 n = true) (hc : Region.chainB md ops n = true) (hmi : m0 ≤ i) (hin : i < n) (hdone : ∀ seen a, L seen a → ∀ j ∈ Region.ready md ops seen, n ≤ j) :
    ∀ (m : Nat) (seen : Array Bool) (a : Act), HeadInv md ops n seen →
      (∀ j oj, ops[j]? = some oj → j ≠ i → seen.getD j true = false → (∀ e ∈ oj.after, Region.binds md e = true → e.on ≠ i) → o.apart ops oj = true) →
      i ∈ Region.ready md ops seen → YieldsIn P ops C o v a → Heads P md ops C n L m (seen.setIfInBounds i true) (a.put o.dst v) → Heads P md ops C n L (m + 1) seen a := by
  intro m
  induction m with
  | zero =>
    intro seen a inv _ hr hy H
    refine ⟨List.ne_nil_of_mem hr, fun j hj => ?_⟩
    have hjn : j < n := Nat.lt_of_not_le fun h => tail_held hs hc inv _ i rfl hmi hin (mem_ready.1 hr).1 j h hj
    by_cases hji : j = i
    · exact ⟨hjn, by rw [hji]; exact hy.qOp hi H⟩
    · exact absurd (hdone _ _ H j (ready_mono hj hji)) (by omega)
  | succ m ih =>
    intro seen a inv hfree hr hy H
    refine ⟨List.ne_nil_of_mem hr, fun j hj => ?_⟩
    have hun := (mem_ready.1 hr).1
    have hjn : j < n := Nat.lt_of_not_le fun h => tail_held hs hc inv _ i rfl hmi hin hun j h hj
    by_cases hji : j = i
    · exact ⟨hjn, by rw [hji]; exact hy.qOp hi H⟩
    · obtain ⟨hjun, oj, hoj, hall⟩ := mem_ready.1 hj
      have hnot : ∀ e ∈ oj.after, Region.binds md e = true → e.on ≠ i := fun e he hb he2 => by
        have := hall e he hb
        rw [he2, getD_both hun] at this
        cases this
      have h2 := qOp_put hoj (hfree j oj hoj hji hjun hnot) (fun cs b => hsel i o cs b hi) (fun cs b => hsel j oj cs b hoj) hy (H.2 j (ready_mono hj hji)).2
      refine ⟨hjn, qOp_mono (fun a' h3 => ih (seen.setIfInBounds j true) a' (inv.set hj hjn) (fun k ok hk hki hk2 hno => hfree k ok hk hki ?_ hno) (ready_mono hr (Ne.symm hji)) h3.1 (by rw [Array.setIfInBounds_comm _ _ hji]; exact h3.2)) h2⟩
      by_cases hjk : j = k
      · rw [← hjk]; exact hjun
      · rwa [getD_set_ne true hjk] at hk2
theorem Heads.walk {m0 n g : Nat} {K : Act → Prop} (hsel : Region.noSelect ops = true) (hs : sinkFrom md ops m0 n = true) (hc : Region.chainB md ops n = true) :
    ∀ (l : List Oper) (k : Nat) (seen : Array Bool) (a : Act), (∀ j, j < l.length → l[j]? = ops[k + j]?) → m0 ≤ k → k + l.length = n → HeadInv md ops n seen →
    Region.lexHead md ops g l.length k seen = true → wpQuiet P ops C K l a → Heads P md ops C n (fun seen' a' => Region.seqB md ops g n seen' = true ∧ K a') l.length seen a := by
  intro l
  induction l with
  | nil =>
    intro k seen a _ _ hk _ hB h
    have : k = n := by simpa using hk
    subst this
    exact ⟨by simpa [Region.lexHead] using hB, h⟩
  | cons o l ih =>
    intro k seen a hl hmk hk inv hB h
    have h0 : ops[k]? = some o := by simpa using (hl 0 (by simp)).symm
    simp only [List.length_cons] at hk
    simp only [List.length_cons, Region.lexHead, Bool.and_eq_true] at hB
    have hr : k ∈ Region.ready md ops seen := by simpa using hB.1.1
    have hst : qOp P ops C k (wpQuiet P ops C K l) a := by unfold qOp; simp only [h0]; exact h
    obtain ⟨v, hy, hK⟩ := yieldsIn_of_qOp h0 hst
    refine Heads.first h0 (Region.noSelect_spec hsel) hs hc hmk (by omega) (fun seen' a' hL => seqB_ready hL.1) l.length seen a inv (Region.free_spec h0 hB.1.2) hr hy ?_
    exact ih (k + 1) _ _ (fun j hj => by have := hl (j + 1) (by simp; omega); simpa [Nat.add_assoc, Nat.add_comm 1 j] using this) (by omega) (by omega) (inv.set hr (by omega)) hB.2 hK
/-- no way out but the plain one -/
def Only (K : Act → World → Prop) : Exit → Act → World → Prop := Exit.then K fun _ _ _ => False
theorem Only.normal {K : Act → World → Prop} : ∀ {e : Exit} {a : Act} {w : World}, Only K e a w → e = .normal
  | .normal, _, _, _ => rfl
theorem wpOp_put {j : Nat} {oi oj : Oper} {v : Value} {Q : Exit → Act → World → Prop} {K : Act → World → Prop} {a : Act} {w : World} (hj : ops[j]? = some oj) (hap : oi.apart ops oj = true)
    (hsi : ∀ cs b, oi.op ≠ .select cs b) (hsj : ∀ cs b, oj.op ≠ .select cs b) (hQ : ∀ e a w, Q e a w → e = .normal)
    (hy : ∀ w0, YieldsIn P ops (fun w' => w' = w0) oi v a) (h : wpOp P ops Q j K (a.put oi.dst v) w) :
    wpOp P ops Q j (fun a' w' => (∀ w0, YieldsIn P ops (fun w' => w' = w0) oi v a') ∧ K (a'.put oi.dst v) w') a w := by
  obtain ⟨h1, h2, h3⟩ := Oper.apart_spec hap
  have keep : ∀ u w0, YieldsIn P ops (fun w' => w' = w0) oi v (a.put oj.dst u) := fun u w0 => (hy w0).of_same (execOp_put oi hsi a oj.dst u h3) (wanted_put oi a oj.dst u h3)
  unfold wpOp at *
  simp only [hj] at *
  rw [wanted_put oj a oi.dst v h1] at h
  split
  · rename_i hw
    simp only [hw, if_true] at h
    rcases h with h | ⟨_, a', w', hq⟩
    · left
      unfold Oper.wp at *
      rw [execOp_put oj hsj a oi.dst v h1] at h
      generalize (execOp a.eval oj).run P w = r at *
      cases r with
      | ok n w' =>
        cases n <;> simp only [Oper.upon] at h ⊢
        case value u => exact ⟨keep u, by rw [← Act.put_comm a v u h2]; exact h⟩
        case skip => exact ⟨keep undef, by rw [← Act.put_comm a v undef h2]; exact h⟩
        case defer d =>
          refine ⟨?_, ?_⟩
          · intro w0
            have e1 : ({ a with defers := d :: a.defers }.put oj.dst undef).eval = (a.put oj.dst undef).eval := by
              funext x; cases x <;> cases oj.dst <;> rfl
            have e2 : ({ a with defers := d :: a.defers }.put oj.dst undef).tmps = (a.put oj.dst undef).tmps := by cases oj.dst <;> rfl
            exact (keep undef w0).of_same (by rw [e1]) (by rw [e2])
          · have e := Act.put_comm a v undef h2
            have : ({ a with defers := d :: a.defers }.put oj.dst undef).put oi.dst v = { a.put oi.dst v with defers := d :: (a.put oi.dst v).defers }.put oj.dst undef := by
              simp only [Act.put, Act.mk.injEq] at e ⊢
              cases hi : oi.dst <;> cases ho : oj.dst <;> simp_all
            rw [this]; exact h
        case enter f args =>
          refine h.mono fun e w'' he => ?_
          cases e with
          | returned u => exact ⟨keep u, by rw [← Act.put_comm a v u h2]; exact he⟩
          | panicked c => exact absurd (hQ _ _ _ he) (by simp)
          | outgrown => obtain ⟨a', w', hq⟩ := he; exact absurd (hQ _ _ _ hq) (by simp)
        case row r args => exact Rows.mono h fun u w'' he => ⟨keep u, by rw [← Act.put_comm a v u h2]; exact he⟩
      | halt x w' =>
        cases x <;> simp only [Oper.upon] at h ⊢
        exact absurd (hQ _ _ _ h) (by simp)
    · exact absurd (hQ _ _ _ hq) (by simp)
  · rename_i hw
    simp only [hw] at h
    exact ⟨keep undef, by rw [← Act.put_comm a v undef h2]; exact h⟩
/-- an operation that yields the same in every world may be taken first -/
theorem wpAny_float {i : Nat} {oi : Oper} {v : Value} {Q : Exit → Act → World → Prop} (hi : ops[i]? = some oi) (hsel : ∀ (j : Nat) (o : Oper) cs b, ops[j]? = some o → o.op ≠ .select cs b) (hQ : ∀ e a w, Q e a w → e = .normal) :
    ∀ (f : Nat) (seen : Array Bool) (a : Act) (w : World),
      (∀ j oj, ops[j]? = some oj → j ≠ i → seen.getD j true = false → (∀ e ∈ oj.after, Region.binds md e = true → e.on ≠ i) → oi.apart ops oj = true) →
      i ∈ Region.ready md ops seen → (∀ w0, YieldsIn P ops (fun w' => w' = w0) oi v a) → wpAny P md ops Q f (seen.setIfInBounds i true) (a.put oi.dst v) w → wpAny P md ops Q (f + 1) seen a w := by
  have own : ∀ {K : Act → World → Prop} {a : Act} {w : World}, (∀ w0, YieldsIn P ops (fun w' => w' = w0) oi v a) → K (a.put oi.dst v) w → wpOp P ops Q i K a w := fun {K a w} hy hK =>
    wpOp_of_qOp (C := fun w' => w' = w) (K := fun a' => a' = a.put oi.dst v) rfl (fun a' w' hw ha => by subst hw ha; exact hK) ((hy w).qOp hi rfl)
  intro f
  induction f with
  | zero =>
    intro seen a w _ hr hy H
    refine ⟨fun h => absurd h (List.ne_nil_of_mem hr), fun j hj => ?_⟩
    by_cases hji : j = i
    · rw [hji]; exact own hy H
    · have := ready_mono hj hji
      rw [H.1] at this
      cases this
  | succ f ih =>
    intro seen a w hfree hr hy H
    refine ⟨fun h => absurd h (List.ne_nil_of_mem hr), fun j hj => ?_⟩
    by_cases hji : j = i
    · rw [hji]; exact own hy H
    · obtain ⟨hjun, oj, hoj, hall⟩ := mem_ready.1 hj
      have hnot : ∀ e ∈ oj.after, Region.binds md e = true → e.on ≠ i := fun e he hb he2 => by
        have := hall e he hb
        rw [he2, getD_both (mem_ready.1 hr).1] at this
        cases this
      have h2 := wpOp_put hoj (hfree j oj hoj hji hjun hnot) (fun cs b => hsel i oi cs b hi) (fun cs b => hsel j oj cs b hoj) hQ hy (H.2 j (ready_mono hj hji))
      refine wpOp_mono (fun a' w' h3 => ih (seen.setIfInBounds j true) a' w' (fun k ok hk hki hk2 hno => hfree k ok hk hki ?_ hno) (ready_mono hr (Ne.symm hji)) h3.1 (by rw [Array.setIfInBounds_comm _ _ hji]; exact h3.2)) h2
      by_cases hjk : j = k
      · rw [← hjk]; exact hjun
      · rwa [getD_set_ne true hjk] at hk2
theorem wp_region_quiet_tail {id : Nat} {Q : Exit → Act → World → Prop} {a : Act} {w : World} {l : List Oper} (n : Nat) (hm : P.follows .mixedOrders = true) (hB : Region.lexTailB .any l.toArray n = true)
    (hC : C w.drew) (h : wpQuiet P l.toArray C (fun a' => ∀ w', C w' → wpList P l.toArray Q (l.drop n) a' w') (l.take n) a) : (Code.region id l.toArray true).wp P Q a w := by
  simp only [Region.lexTailB, Bool.and_eq_true, decide_eq_true_eq] at hB
  obtain ⟨⟨⟨⟨hsel, hn⟩, hs⟩, hc⟩, hlex⟩ := hB
  have hn' : n < l.length := by simpa using hn
  have htl : (l.take n).length = n := by rw [List.length_take]; omega
  have hdl : (l.drop n).length = l.toArray.size - n := by simp
  have inv0 : HeadInv .any l.toArray n (Array.replicate l.toArray.size false) :=
    ⟨by simp, fun j oj _ hl => (by rw [getD_replicate_false] at hl; cases hl), fun t _ ht => getD_in (by simpa using ht) (getD_replicate_false _ _)⟩
  have hs' : sinkFrom .any l.toArray 0 n = true := by
    unfold sinkFrom
    unfold Region.sinkB at hs
    rw [List.all_eq_true] at hs ⊢
    intro i hi
    simp only [Bool.or_eq_true]
    exact .inr (hs i hi)
  have H := Heads.walk (md := .any) (m0 := 0) (g := l.toArray.size - n) hsel hs' hc (l.take n) 0 _ a (fun j hj => by
    rw [htl] at hj
    simp [hj]) (Nat.le_refl _) (by simpa using htl) inv0 (by rw [htl]; exact hlex) h
  refine wp_region_any hm ?_
  have H2 := Heads.any (Q := Q) (g := l.toArray.size - n) (fun seen a' w' hw' hL => by
    have := wpAny_of_seq (md := .any) (Q' := Q) (l.drop n) n seen a' w' (fun j => by simp [List.getElem?_drop]) (by rw [hdl]; exact hL.1) (hL.2 w' hw')
    rwa [hdl] at this) _ _ _ w.drew hC H
  rw [htl, show n + (l.toArray.size - n) = l.toArray.size by omega] at H2
  exact H2
/-- the same over worlds that have grown -/
theorem wp_region_kin_tail {id : Nat} {Q : Exit → Act → World → Prop} {a : Act} {w : World} {l : List Oper} (n : Nat) (hm : P.follows .mixedOrders = true) (hB : Region.lexTailB .any l.toArray n = true)
    (h : wpQuiet P l.toArray (fun w' => ∃ z : Kin w, w' = z.1) (fun a' => ∀ w', (∃ z : Kin w, w' = z.1) → wpList P l.toArray Q (l.drop n) a' w') (l.take n) a) : (Code.region id l.toArray true).wp P Q a w :=
  wp_region_quiet_tail n hm hB ⟨⟨w.drew, (Below.refl _ _).drew⟩, rfl⟩ h
/-- the first operation, a move, may come up anywhere; then n - 1 quiet ones, then a chain -/
def floatTailB (l : List Oper) (n : Nat) : Bool :=
  Region.noSelect l.toArray && decide (n < l.length) && decide (0 < n) && sinkFrom .any l.toArray 1 n && Region.chainB .any l.toArray n &&
  (Region.ready .any l.toArray (Array.replicate l.length false)).contains 0 && Region.free .any l.toArray (Array.replicate l.length false) 0 && Region.lexHead .any l.toArray (l.length - n) (n - 1) 1 ((Array.replicate l.length false).setIfInBounds 0 true)
theorem wp_region_float {W w : World} {id : Nat} {Q : Exit → Act → World → Prop} {a : Act} {o0 : Oper} {l : List Oper} {x : Operand} (n : Nat) (hm : P.follows .mixedOrders = true) (hB : floatTailB (o0 :: l) n = true) (ho : o0.op = .move x) (hg : o0.guard = none) (hw : Below W.heap.size W w)
    (h : wpQuiet P (o0 :: l).toArray (fun w' => ∃ z : Kin w, w' = z.1) (fun a' => ∀ zq : Kin W, Below w.heap.size w zq.1 → wpList P (o0 :: l).toArray (Exit.then (Q .normal) fun _ _ _ => False) ((o0 :: l).drop n) a' zq.1) ((o0 :: l).take n) a) :
    (Code.region id (o0 :: l).toArray true).wp P Q a w := by
  simp only [floatTailB, Bool.and_eq_true, decide_eq_true_eq] at hB
  obtain ⟨⟨⟨⟨⟨⟨⟨hsel, hn⟩, hn0⟩, hs⟩, hc⟩, hr0⟩, hf0⟩, hlex⟩ := hB
  have hsz : (o0 :: l).toArray.size = (o0 :: l).length := rfl
  obtain ⟨n, rfl⟩ : ∃ m, n = m + 1 := ⟨n - 1, by omega⟩
  simp only [Nat.add_sub_cancel] at hlex
  simp only [List.take_succ_cons, List.drop_succ_cons] at h
  have hl : n < l.length := by simpa using hn
  have htl : (l.take n).length = n := by rw [List.length_take]; omega
  have h00 : (o0 :: l).toArray[0]? = some o0 := rfl
  have inv0 : HeadInv .any (o0 :: l).toArray (n + 1) (Array.replicate (o0 :: l).length false) :=
    ⟨by simp, fun j oj _ hl => (by rw [getD_replicate_false] at hl; cases hl), fun t _ ht => getD_in (by simpa using ht) (getD_replicate_false _ _)⟩
  have hr : (0 : Nat) ∈ Region.ready .any (o0 :: l).toArray (Array.replicate (o0 :: l).length false) := by simpa using hr0
  have hy : ∀ w0, YieldsIn P (o0 :: l).toArray (fun w' => w' = w0) o0 (a.eval x) a := fun w0 => .inl ⟨by simp [Region.wanted, hg], fun w1 _ => by
    simp [Oper.quietAt, Oper.quietUpon, execOp, ho]⟩
  replace h : wpQuiet P (o0 :: l).toArray (fun w' => ∃ z : Kin w, w' = z.1) (fun a' => ∀ zq : Kin W, Below w.heap.size w zq.1 → wpList P (o0 :: l).toArray (Exit.then (Q .normal) fun _ _ _ => False) (l.drop n) a' zq.1) (l.take n) (a.put o0.dst (a.eval x)) := by
    have hw0 : Region.wanted o0 (yielded (o0 :: l).toArray a.tmps) = true := by simp [Region.wanted, hg]
    unfold wpQuiet at h
    rw [if_pos hw0] at h
    obtain ⟨v, hv, hn⟩ := h
    have := hv w.drew ⟨⟨w.drew, (Below.refl _ _).drew⟩, rfl⟩
    simp [Oper.quietAt, Oper.quietUpon, execOp, ho] at this
    rw [this]; exact hn
  have hdr : ∀ j : Nat, (l.drop n)[j]? = (o0 :: l).toArray[n + 1 + j]? := fun j => by
    rw [List.getElem?_drop]
    simp only [List.getElem?_toArray]
    rw [show n + 1 + j = (n + j) + 1 by omega, List.getElem?_cons_succ]
  have hdl : (l.drop n).length = (o0 :: l).length - (n + 1) := by simp
  have H := Heads.walk (P := P) (C := fun w' => ∃ z : Kin w, w' = z.1) (md := .any) (m0 := 1) (g := (o0 :: l).length - (n + 1)) hsel hs hc (l.take n) 1 _ (a.put o0.dst (a.eval x)) (fun j hj => by
    rw [htl] at hj
    rw [List.getElem?_take_of_lt hj]
    simp only [List.getElem?_toArray]
    rw [Nat.add_comm 1 j, List.getElem?_cons_succ]) (Nat.le_refl _) (by rw [htl]; omega) (inv0.set hr (by omega)) (by rw [htl]; exact hlex) h
  refine wp_mono (Q := Exit.then (Q .normal) fun _ _ _ => False) ?_ fun e a' w' hq => by cases e <;> first | exact hq | exact hq.elim
  refine wp_region_any hm ?_
  have hQ : ∀ e (a : Act) (w : World), Exit.then (Q .normal) (fun _ _ _ => False) e a w → e = .normal := fun e a w hq => by cases e <;> first | rfl | exact hq.elim
  have H2 := Heads.any (Q := Exit.then (Q .normal) fun _ _ _ => False) (g := (o0 :: l).length - (n + 1)) (fun seen a' w' ⟨z, hz⟩ hL => by
    have := wpAny_of_seq (md := .any) (Q' := Exit.then (Q .normal) fun _ _ _ => False) (l.drop n) (n + 1) seen a' w' hdr (by rw [hdl]; exact hL.1) (by
      rw [hz]
      exact hL.2 ⟨z.1, hw.trans (z.2.mono hw.size)⟩ z.2)
    rwa [hdl] at this) _ _ _ w.drew ⟨⟨w.drew, (Below.refl _ _).drew⟩, rfl⟩ H
  have H3 := wpAny_float h00 (Region.noSelect_spec hsel) hQ _ _ a w.drew (Region.free_spec h00 hf0) hr hy H2
  have e : (l.take n).length + ((o0 :: l).length - (n + 1)) + 1 = (o0 :: l).toArray.size := by rw [htl, hsz]; simp; omega
  rw [e] at H3
  exact H3
end
end Go.Proofs.Ytfoedkdmckhihaa

/- Lemmas: FloatT HeldT. -/
import Derived.Deep.RegionHeld
import Derived.Test.YtneelidbgigehaaGreatT10
/- Like FloatH, where the last operation of the region waits for all others and may break the condition. -/
namespace Go.Proofs.YtneelidbgigehaaGreat
set_option linter.unusedSimpArgs false
set_option linter.unusedVariables false
open Go.RowKit
section
variable {P : Program} {ops : Array Oper} {md : Region.Mode} {C S : World → Prop} {z : Nat}
/-- whatever order is picked, and S holds behind every operation but number z -/
def wpAnyT (P : Program) (md : Region.Mode) (ops : Array Oper) (Q : Exit → Act → World → Prop) (S : World → Prop) (z : Nat) : Nat → Array Bool → Act → World → Prop
  | 0, seen, a, w => Region.ready md ops seen = [] ∧ Q .normal a w
  | f + 1, seen, a, w => (Region.ready md ops seen = [] → Q .normal a w) ∧
    ∀ i ∈ Region.ready md ops seen, wpOp P ops Q i (fun a' w' => (i = z ∨ S w') ∧ wpAnyT P md ops Q S z f (seen.setIfInBounds i true) a' w') a w
theorem wpAny_of_T {Q : Exit → Act → World → Prop} : ∀ (f : Nat) (seen : Array Bool) (a : Act) (w : World), wpAnyT P md ops Q S z f seen a w → wpAny P md ops Q f seen a w
  | 0, _, _, _, h => h
  | f + 1, _, _, _, h => ⟨h.1, fun i hi => wpOp_mono (fun a' w' h' => wpAny_of_T f _ a' w' h'.2) (h.2 i hi)⟩
/-- number z waits for the first m -/
def lastB (md : Region.Mode) (ops : Array Oper) (m z : Nat) : Bool := (List.range m).all fun k => Region.waitsFor md ops z k
theorem last_waits {m : Nat} (hl : lastB md ops m z = true) {seen : Array Bool} (hr : z ∈ Region.ready md ops seen) {k : Nat} (hk : k < m) : seen.getD k true ≠ false := by
  intro hun
  have h1 := List.all_eq_true.1 hl k (List.mem_range.2 hk)
  obtain ⟨oz, hoz, e, he, hb, hon⟩ := Region.waitsFor_spec h1
  obtain ⟨_, o', ho', hall⟩ := mem_ready.1 hr
  rw [hoz] at ho'
  injection ho' with ho'
  subst ho'
  have h2 := hall e he hb
  rw [hon, getD_both hun] at h2
  cases h2
theorem wpAnyT_float {m i : Nat} {oi : Oper} {v : Value} {Q : Exit → Act → World → Prop} (hl : lastB md ops m z = true) (hiz : i < m) (hi : ops[i]? = some oi) (hsel : ∀ (j : Nat) (o : Oper) cs b, ops[j]? = some o → o.op ≠ .select cs b)
    (hQ : ∀ c a w, Q (.panic c) (a.put oi.dst v) w → Q (.panic c) a w) :
    ∀ (f : Nat) (seen : Array Bool) (a : Act) (w : World),
      (∀ j oj, ops[j]? = some oj → j ≠ i → seen.getD j true = false → (∀ e ∈ oj.after, Region.binds md e = true → e.on ≠ i) → oi.apart ops oj = true) →
      i ∈ Region.ready md ops seen → YieldsIf P ops S oi v a → S w → wpAnyT P md ops Q S z f (seen.setIfInBounds i true) (a.put oi.dst v) w → wpAnyT P md ops Q S z (f + 1) seen a w := by
  intro f
  induction f with
  | zero =>
    intro seen a w _ hr hy hS H
    refine ⟨fun h => absurd h (List.ne_nil_of_mem hr), fun j hj => ?_⟩
    by_cases hji : j = i
    · rw [hji]; exact hy.wpOp hi hS ⟨.inr hS, H⟩
    · have := ready_mono hj hji
      rw [H.1] at this
      cases this
  | succ f ih =>
    intro seen a w hfree hr hy hS H
    refine ⟨fun h => absurd h (List.ne_nil_of_mem hr), fun j hj => ?_⟩
    by_cases hji : j = i
    · rw [hji]; exact hy.wpOp hi hS ⟨.inr hS, H⟩
    · obtain ⟨hjun, oj, hoj, hall⟩ := mem_ready.1 hj
      have hnot : ∀ e ∈ oj.after, Region.binds md e = true → e.on ≠ i := fun e he hb he2 => by
        have := hall e he hb
        rw [he2, getD_both (mem_ready.1 hr).1] at this
        cases this
      have h2 := wpOp_putIf hoj (hfree j oj hoj hji hjun hnot) (fun cs b => hsel i oi cs b hi) (fun cs b => hsel j oj cs b hoj) hQ hy (H.2 j (ready_mono hj hji))
      have hr2 : i ∈ Region.ready md ops (seen.setIfInBounds j true) := ready_mono hr (Ne.symm hji)
      refine wpOp_mono (fun a' w' h3 => ?_) h2
      obtain ⟨hy', hS', hH⟩ := h3
      rcases hS' with h0 | hS'
      · subst h0
        exact absurd (mem_ready.1 hr).1 (last_waits hl hj hiz)
      · refine ⟨.inr hS', ih (seen.setIfInBounds j true) a' w' (fun k ok hk hki hk2 hno => hfree k ok hk hki ?_ hno) hr2 hy' hS' (by rw [Array.setIfInBounds_comm _ _ hji]; exact hH)⟩
        by_cases hjk : j = k
        · rw [← hjk]; exact hjun
        · rwa [getD_set_ne true hjk] at hk2
theorem Heads.anyT {n g : Nat} {L : Array Bool → Act → Prop} {Q : Exit → Act → World → Prop} (hCS : ∀ w, C w → S w) (hL : ∀ seen a w, C w → L seen a → wpAnyT P md ops Q S z g seen a w) :
    ∀ (m : Nat) (seen : Array Bool) (a : Act) (w : World), C w → Heads P md ops C n L m seen a → wpAnyT P md ops Q S z (m + g) seen a w := by
  intro m
  induction m with
  | zero => intro seen a w hw h; rw [Nat.zero_add]; exact hL seen a w hw h
  | succ m ih =>
    intro seen a w hw h
    have e : m + 1 + g = (m + g) + 1 := by omega
    rw [e]
    exact ⟨fun h0 => absurd h0 h.1, fun i hi => wpOp_of_qOp hw (fun a' w' hw' h' => ⟨.inr (hCS _ hw'), ih _ a' w' hw' h'⟩) (h.2 i hi).2⟩
/-- the chain, S shown behind each of its operations but the last -/
def wpListT (P : Program) (ops : Array Oper) (Q : Exit → Act → World → Prop) (S : World → Prop) : List Oper → Act → World → Prop
  | [], a, w => Q .normal a w
  | o :: rest, a, w => ∀ K' : Act → World → Prop, (∀ a w, (rest = [] ∨ S w) → wpListT P ops Q S rest a w → K' a w) →
    if Region.wanted o (yielded ops a.tmps) = true then Oper.wp P o a w K' Q else K' (a.put o.dst undef) w
theorem wpListT_nil {Q : Exit → Act → World → Prop} {a : Act} {w : World} (h : Q .normal a w) : wpListT P ops Q S [] a w := h
theorem wpAnyT_of_seq {Q' : Exit → Act → World → Prop} : ∀ (l : List Oper) (k : Nat) (seen : Array Bool) (a : Act) (w : World), (∀ j, l[j]? = ops[k + j]?) → k + l.length = z + 1 →
    Region.seqB md ops l.length k seen = true → wpListT P ops Q' S l a w → wpAnyT P md ops Q' S z l.length seen a w
  | [], _, _, _, _, _, _, hB, h => ⟨by simpa [Region.seqB] using hB, h⟩
  | o :: l, k, seen, a, w, hl, hz, hB, h => by
    have h0 : ops[k]? = some o := by simpa using (hl 0).symm
    simp only [List.length_cons, Region.seqB, Bool.and_eq_true, decide_eq_true_eq] at hB
    refine ⟨fun h1 => (by rw [hB.1] at h1; cases h1), fun i hi => ?_⟩
    rw [hB.1] at hi
    have hik : i = k := by simpa using hi
    subst hik
    refine wpOp_step h0 fun K' hK => h K' fun a' w' hS h' => hK a' w' ⟨hS.imp (fun e => ?_) id, wpAnyT_of_seq l (i + 1) _ a' w' (fun j => by have := hl (j + 1); simpa [Nat.add_assoc, Nat.add_comm 1 j] using this) (by simp at hz; omega) hB.2 h'⟩
    rw [e] at hz
    simpa using hz
theorem take_floatsT {M n g f fuel : Nat} {Q : Exit → Act → World → Prop} {K : Act → Prop} (hl : lastB md ops M z = true) (hnz : n ≤ z) (hsel : Region.noSelect ops = true) (hQ : ∀ e a w, Q e a w → e = .normal) {w : World} (hS : S w) :
    ∀ (l : List Oper) (k : Nat) (seen : Array Bool) (a : Act), (∀ j, j < l.length → l[j]? = ops[k + j]?) → k + l.length ≤ n → k + l.length ≤ M → HeadInv md ops n seen →
    Region.lexHead md ops g (l.length + f) k seen = true →
    (∀ seen' a', HeadInv md ops n seen' → Region.lexHead md ops g f (k + l.length) seen' = true → K a' → wpAnyT P md ops Q S z fuel seen' a' w) →
    TakeS P ops S K l a → wpAnyT P md ops Q S z (l.length + fuel) seen a w := by
  intro l
  induction l with
  | nil => intro k seen a _ _ _ inv hB hK h; rw [List.length_nil, Nat.zero_add] at *; exact hK seen a inv (by simpa using hB) h
  | cons o l ih =>
    intro k seen a hll hk hkM inv hB hK h
    have h0 : ops[k]? = some o := by simpa using (hll 0 (by simp)).symm
    simp only [List.length_cons] at hk hkM
    have e1 : (o :: l).length + f = (l.length + f) + 1 := by simp; omega
    rw [e1] at hB
    simp only [Region.lexHead, Bool.and_eq_true] at hB
    have hr : k ∈ Region.ready md ops seen := by simpa using hB.1.1
    obtain ⟨v, hy, hT⟩ := h
    have e2 : (o :: l).length + fuel = (l.length + fuel) + 1 := by simp; omega
    rw [e2]
    refine wpAnyT_float hl (by omega) h0 (Region.noSelect_spec hsel) (fun c a' w' hq => absurd (hQ _ _ _ hq) (by simp)) _ _ _ _ (Region.free_spec h0 hB.1.2) hr hy hS ?_
    refine ih (k + 1) _ _ (fun j hj => by have := hll (j + 1) (by simp; omega); simpa [Nat.add_assoc, Nat.add_comm 1 j] using this) (by omega) (by omega) (inv.set hr (by omega)) hB.2 (fun seen' a' inv' hB' hK' => hK seen' a' inv' ?_ hK') hT
    rw [List.length_cons, show k + (l.length + 1) = k + 1 + l.length by omega]
    exact hB'
theorem wp_region_floatT {w : World} {id : Nat} {Q : Exit → Act → World → Prop} {a : Act} {l : List Oper} (m n : Nat) (S : World → Prop) (hm : P.follows .mixedOrders = true) (hB : floatsB l m n = true) (hlast : lastB .any l.toArray m (l.length - 1) = true)
    (hCS : ∀ z : Kin w, S z.1)
    (h : TakeS P l.toArray S (wpQuiet P l.toArray (fun w' => ∃ z : Kin w, w' = z.1) (fun a' => ∀ zq : Kin w, wpListT P l.toArray (Exit.then (Q .normal) fun _ _ _ => False) S (l.drop n) a' zq.1) ((l.take n).drop m)) (l.take m) a) :
    (Code.region id l.toArray true).wp P Q a w := by
  simp only [floatsB, Bool.and_eq_true, decide_eq_true_eq] at hB
  obtain ⟨⟨⟨⟨⟨hsel, hmn⟩, hn⟩, hs⟩, hc⟩, hlex⟩ := hB
  have hsz : l.toArray.size = l.length := rfl
  have htm : (l.take m).length = m := by rw [List.length_take]; omega
  have hhd : ((l.take n).drop m).length = n - m := by rw [List.length_drop, List.length_take]; omega
  have hdl : (l.drop n).length = l.length - n := by simp
  have inv0 : HeadInv .any l.toArray n (Array.replicate l.length false) :=
    ⟨by simp, fun j oj _ hl => (by rw [getD_replicate_false] at hl; cases hl), fun t _ ht => getD_in (by simpa using ht) (getD_replicate_false _ _)⟩
  refine wp_mono (Q := Exit.then (Q .normal) fun _ _ _ => False) ?_ fun e a' w' hq => by cases e <;> first | exact hq | exact hq.elim
  have hQ : ∀ e (a : Act) (w : World), Exit.then (Q .normal) (fun _ _ _ => False) e a w → e = .normal := fun e a w hq => by cases e <;> first | rfl | exact hq.elim
  refine wp_region_any hm (wpAny_of_T (S := S) (z := l.length - 1) _ _ _ _ ?_)
  have hS0 : S w.drew := hCS ⟨w.drew, (Below.refl _ _).drew⟩
  have H := take_floatsT (P := P) (ops := l.toArray) (md := .any) (S := S) (z := l.length - 1) (n := n) (g := l.length - n) (f := n - m) (fuel := n - m + (l.length - n)) hlast (by omega) hsel hQ hS0 (l.take m) 0 _ a (fun j hj => by
    rw [htm] at hj
    simp [hj]) (by rw [htm]; omega) (by rw [htm]; omega) inv0 (by rw [htm, show m + (n - m) = n by omega]; exact hlex) (fun seen' a' inv' hB' hK' => by
      rw [htm, Nat.zero_add] at hB'
      have H2 := Heads.walk (P := P) (C := fun w' => ∃ z : Kin w, w' = z.1) (md := .any) (m0 := m) (g := l.length - n) hsel hs hc ((l.take n).drop m) m _ a' (fun j hj => by
        rw [hhd] at hj
        rw [List.getElem?_drop, List.getElem?_take_of_lt (by omega)]
        simp) (Nat.le_refl _) (by rw [hhd]; omega) inv' (by rw [hhd]; exact hB') hK'
      rw [hhd] at H2
      exact Heads.anyT (S := S) (fun w' ⟨z, hz⟩ => hz ▸ hCS z) (fun seen a'' w'' ⟨z, hz⟩ hL => by
        have := wpAnyT_of_seq (P := P) (md := .any) (S := S) (z := l.length - 1) (Q' := Exit.then (Q .normal) fun _ _ _ => False) (l.drop n) n seen a'' w'' (fun j => by simp [List.getElem?_drop]) (by rw [hdl]; omega) (by rw [hdl]; exact hL.1) (hz ▸ hL.2 z)
        rwa [hdl] at this) _ _ _ w.drew ⟨⟨w.drew, (Below.refl _ _).drew⟩, rfl⟩ H2) h
  have e : (l.take m).length + (n - m + (l.length - n)) = l.toArray.size := by rw [htm, hsz]; omega
  rw [e] at H
  exact H
end
end Go.Proofs.YtneelidbgigehaaGreat

/- A region that draws, taken by hand, whose last operation waits for all others and may break the condition. -/
namespace Go.Proofs.YtneelidbgigehaaGreat
set_option linter.unusedSimpArgs false
set_option linter.unusedVariables false
open Go.RowKit
section
variable {P : Program} {ops : Array Oper} {md : Region.Mode} {S : World → Prop} {z : Nat} {Q : Exit → Act → World → Prop}
theorem wp_region_heldT {id : Nat} {a : Act} {w : World} (z : Nat) (hm : P.follows .mixedOrders = true) (hS : S w.drew)
    (h : S w.drew → wpAnyT P .any ops Q S z ops.size (Array.replicate ops.size false) a w.drew) : (Code.region id ops true).wp P Q a w :=
  wp_region_any hm (wpAny_of_T _ _ _ _ (h hS))
theorem wpAnyT_take {m i : Nat} {oi : Oper} {v : Value} {fuel : Nat} {listed : Array Bool} {a : Act} {w : World} (hl : lastB md ops m z = true) (him : i < m) (hi : ops[i]? = some oi)
    (hs : Region.noSelect ops = true) (hf : Region.free md ops listed i = true) (hr : (Region.ready md ops listed).contains i = true)
    (hQ : ∀ c a w, Q (.panic c) (a.put oi.dst v) w → Q (.panic c) a w) (hy : YieldsIf P ops S oi v a) (hS : S w)
    (h : wpAnyT P md ops Q S z fuel (listed.setIfInBounds i true) (a.put oi.dst v) w) : wpAnyT P md ops Q S z (fuel + 1) listed a w :=
  wpAnyT_float hl him hi (Region.noSelect_spec hs) hQ fuel listed a w (Region.free_spec hi hf) (by simpa using hr) hy hS h
theorem wpAnyT_step {fuel : Nat} {listed : Array Bool} {a : Act} {w : World} {i : Nat} {o : Oper} (hr : Region.ready md ops listed = [i]) (ho : ops[i]? = some o)
    (h : ∀ K' : Act → World → Prop, Shut (∀ a w, S w → (S w → wpAnyT P md ops Q S z fuel (listed.setIfInBounds i true) a w) → K' a w) → if Region.wanted o (yielded ops a.tmps) = true then Oper.wp P o a w K' Q else K' (a.put o.dst undef) w) : wpAnyT P md ops Q S z (fuel + 1) listed a w := by
  refine ⟨fun h0 => (by rw [hr] at h0; cases h0), fun j hj => ?_⟩
  rw [hr] at hj
  obtain rfl : j = i := by simpa using hj
  exact wpOp_step ho fun K' hK => h K' (fun a w hS hW => hK a w ⟨.inr hS, hW hS⟩)
theorem wpAnyT_last {fuel : Nat} {listed : Array Bool} {a : Act} {w : World} {o : Oper} (hr : Region.ready md ops listed = [z]) (ho : ops[z]? = some o)
    (h : ∀ K' : Act → World → Prop, Shut (∀ a w, wpAnyT P md ops Q S z fuel (listed.setIfInBounds z true) a w → K' a w) → if Region.wanted o (yielded ops a.tmps) = true then Oper.wp P o a w K' Q else K' (a.put o.dst undef) w) : wpAnyT P md ops Q S z (fuel + 1) listed a w := by
  refine ⟨fun h0 => (by rw [hr] at h0; cases h0), fun j hj => ?_⟩
  rw [hr] at hj
  obtain rfl : j = z := by simpa using hj
  exact wpOp_step ho fun K' hK => h K' (fun a w hW => hK a w ⟨.inl rfl, hW⟩)
theorem wpAnyT_done {listed : Array Bool} {a : Act} {w : World} (hr : Region.ready md ops listed = []) (h : Q .normal a w) : ∀ fuel, wpAnyT P md ops Q S z fuel listed a w
  | 0 => ⟨hr, h⟩
  | _ + 1 => ⟨fun _ => h, by rw [hr]; simp⟩
end
end Go.Proofs.YtneelidbgigehaaGreat

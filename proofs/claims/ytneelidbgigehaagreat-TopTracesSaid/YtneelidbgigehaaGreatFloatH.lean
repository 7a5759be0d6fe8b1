/- A region that draws its order: operations that float past a call (each yields what a condition on the world gives), quiet operations, and a chain at whose every step the condition is shown. -/
import Derived.Test.YtneelidbgigehaaGreatBase
import Derived.OrdersHeld
namespace Go.Proofs.YtneelidbgigehaaGreat
set_option linter.unusedSimpArgs false
set_option linter.unusedVariables false
open Go.RowKit
section
variable {P : Program} {ops : Array Oper} {md : Region.Mode} {C S : World → Prop}
theorem Heads.anyH {n g : Nat} {L : Array Bool → Act → Prop} {Q : Exit → Act → World → Prop} (hCS : ∀ w, C w → S w) (hL : ∀ seen a w, C w → L seen a → wpAnyH P md ops Q S g seen a w) :
    ∀ (m : Nat) (seen : Array Bool) (a : Act) (w : World), C w → Heads P md ops C n L m seen a → wpAnyH P md ops Q S (m + g) seen a w := by
  intro m
  induction m with
  | zero => intro seen a w hw h; rw [Nat.zero_add]; exact hL seen a w hw h
  | succ m ih =>
    intro seen a w hw h
    have e : m + 1 + g = (m + g) + 1 := by omega
    rw [e]
    exact ⟨fun h0 => absurd h0 h.1, fun i hi => wpOp_of_qOp hw (fun a' w' hw' h' => ⟨hCS _ hw', ih _ a' w' hw' h'⟩) (h.2 i hi).2⟩
/-- the chain, S shown behind each of its operations -/
def wpListS (P : Program) (ops : Array Oper) (Q : Exit → Act → World → Prop) (S : World → Prop) : List Oper → Act → World → Prop
  | [], a, w => Q .normal a w
  | o :: rest, a, w => ∀ K' : Act → World → Prop, (∀ a w, S w → wpListS P ops Q S rest a w → K' a w) →
    if Region.wanted o (yielded ops a.tmps) = true then Oper.wp P o a w K' Q else K' (a.put o.dst undef) w
theorem wpListS_nil {Q : Exit → Act → World → Prop} {a : Act} {w : World} (h : Q .normal a w) : wpListS P ops Q S [] a w := h
theorem wpAnyH_of_seq {Q' : Exit → Act → World → Prop} : ∀ (l : List Oper) (k : Nat) (listed : Array Bool) (a : Act) (w : World), (∀ j, l[j]? = ops[k + j]?) →
    Region.seqB md ops l.length k listed = true → wpListS P ops Q' S l a w → wpAnyH P md ops Q' S l.length listed a w
  | [], _, _, _, _, _, hB, h => ⟨by simpa [Region.seqB] using hB, h⟩
  | o :: l, k, listed, a, w, hl, hB, h => by
    have h0 : ops[k]? = some o := by simpa using (hl 0).symm
    simp only [List.length_cons, Region.seqB, Bool.and_eq_true, decide_eq_true_eq] at hB
    refine ⟨fun h1 => (by rw [hB.1] at h1; cases h1), fun i hi => ?_⟩
    rw [hB.1] at hi
    have hik : i = k := by simpa using hi
    subst hik
    exact wpOp_step h0 fun K' hK => h K' fun a' w' hS h' => hK a' w' ⟨hS, wpAnyH_of_seq l (i + 1) _ a' w' (fun j => by have := hl (j + 1); simpa [Nat.add_assoc, Nat.add_comm 1 j] using this) hB.2 h'⟩
/-- operations taken first, each of which yields in every world that meets S -/
def TakeS (P : Program) (ops : Array Oper) (S : World → Prop) (K : Act → Prop) : List Oper → Act → Prop
  | [], a => K a
  | o :: l, a => ∃ v, YieldsIf P ops S o v a ∧ TakeS P ops S K l (a.put o.dst v)
theorem takeS_nil {K : Act → Prop} {a : Act} (h : K a) : TakeS P ops S K [] a := h
theorem takeS_cons {K : Act → Prop} {o : Oper} {l : List Oper} {a : Act} {v : Value} (hw : Region.wanted o (yielded ops a.tmps) = true) (hr : ∀ w, S w → (execOp a.eval o).run P w = .ok (.value v) w) (h : TakeS P ops S K l (a.put o.dst v)) : TakeS P ops S K (o :: l) a := ⟨v, .inl ⟨hw, hr⟩, h⟩
theorem take_floats {n g f fuel : Nat} {Q : Exit → Act → World → Prop} {K : Act → Prop} (hsel : Region.noSelect ops = true) (hQ : ∀ e a w, Q e a w → e = .normal) {w : World} (hS : S w) :
    ∀ (l : List Oper) (k : Nat) (listed : Array Bool) (a : Act), (∀ j, j < l.length → l[j]? = ops[k + j]?) → k + l.length ≤ n → HeadInv md ops n listed →
    Region.lexHead md ops g (l.length + f) k listed = true →
    (∀ listed' a', HeadInv md ops n listed' → Region.lexHead md ops g f (k + l.length) listed' = true → K a' → wpAnyH P md ops Q S fuel listed' a' w) →
    TakeS P ops S K l a → wpAnyH P md ops Q S (l.length + fuel) listed a w := by
  intro l
  induction l with
  | nil => intro k listed a _ _ inv hB hK h; rw [List.length_nil, Nat.zero_add] at *; exact hK listed a inv (by simpa using hB) h
  | cons o l ih =>
    intro k listed a hl hk inv hB hK h
    have h0 : ops[k]? = some o := by simpa using (hl 0 (by simp)).symm
    simp only [List.length_cons] at hk
    have e1 : (o :: l).length + f = (l.length + f) + 1 := by simp; omega
    rw [e1] at hB
    simp only [Region.lexHead, Bool.and_eq_true] at hB
    have hr : k ∈ Region.ready md ops listed := by simpa using hB.1.1
    obtain ⟨v, hy, hT⟩ := h
    have e2 : (o :: l).length + fuel = (l.length + fuel) + 1 := by simp; omega
    rw [e2]
    refine wpAnyH_take h0 hsel hB.1.2 hB.1.1 (fun c a' w' hq => absurd (hQ _ _ _ hq) (by simp)) hy hS ?_
    refine ih (k + 1) _ _ (fun j hj => by have := hl (j + 1) (by simp; omega); simpa [Nat.add_assoc, Nat.add_comm 1 j] using this) (by omega) (inv.set hr (by omega)) hB.2 (fun listed' a' inv' hB' hK' => hK listed' a' inv' ?_ hK') hT
    rw [List.length_cons, show k + (l.length + 1) = k + 1 + l.length by omega]
    exact hB'
def floatsB (l : List Oper) (m n : Nat) : Bool :=
  Region.noSelect l.toArray && decide (m ≤ n) && decide (n < l.length) && sinkFrom .any l.toArray m n && Region.chainB .any l.toArray n && Region.lexHead .any l.toArray (l.length - n) n 0 (Array.replicate l.length false)
theorem wp_region_floatH {w : World} {id : Nat} {Q : Exit → Act → World → Prop} {a : Act} {l : List Oper} (m n : Nat) (S : World → Prop) (hm : P.follows .mixedOrders = true) (hB : floatsB l m n = true)
    (hCS : ∀ z : Kin w, S z.1)
    (h : TakeS P l.toArray S (wpQuiet P l.toArray (fun w' => ∃ z : Kin w, w' = z.1) (fun a' => ∀ zq : Kin w, wpListS P l.toArray (Exit.then (Q .normal) fun _ _ _ => False) S (l.drop n) a' zq.1) ((l.take n).drop m)) (l.take m) a) :
    (Code.region id l.toArray true).wp P Q a w := by
  simp only [floatsB, Bool.and_eq_true, decide_eq_true_eq] at hB
  obtain ⟨⟨⟨⟨⟨hsel, hmn⟩, hn⟩, hs⟩, hc⟩, hlex⟩ := hB
  have hsz : l.toArray.size = l.length := rfl
  have htm : (l.take m).length = m := by rw [List.length_take]; omega
  have hhd : ((l.take n).drop m).length = n - m := by rw [List.length_drop, List.length_take]; omega
  have hdl : (l.drop n).length = l.length - n := by simp
  have inv0 : HeadInv .any l.toArray n (Array.replicate l.length false) :=
    ⟨by simp, fun j oj _ hl => (by rw [getD_replicate_false] at hl; cases hl), fun t _ ht => getD_in (by simpa using ht) (getD_replicate_false _ _)⟩
  refine wp_mono (Q := Exit.then (Q .normal) fun _ _ _ => False) ?_ fun e a' w' hq => by cases e <;> first | exact hq | exact hq.elim
  have hQ : ∀ e (a : Act) (w : World), Exit.then (Q .normal) (fun _ _ _ => False) e a w → e = .normal := fun e a w hq => by cases e <;> first | rfl | exact hq.elim
  refine wp_region_any hm (wpAny_of_held (S := S) _ _ _ _ ?_)
  have hS0 : S w.drew := hCS ⟨w.drew, (Below.refl _ _).drew⟩
  have H := take_floats (P := P) (ops := l.toArray) (md := .any) (S := S) (n := n) (g := l.length - n) (f := n - m) (fuel := n - m + (l.length - n)) hsel hQ hS0 (l.take m) 0 _ a (fun j hj => by
    rw [htm] at hj
    simp [hj]) (by rw [htm]; omega) inv0 (by rw [htm, show m + (n - m) = n by omega]; exact hlex) (fun listed' a' inv' hB' hK' => by
      rw [htm, Nat.zero_add] at hB'
      have H2 := Heads.walk (P := P) (C := fun w' => ∃ z : Kin w, w' = z.1) (md := .any) (m0 := m) (g := l.length - n) hsel hs hc ((l.take n).drop m) m _ a' (fun j hj => by
        rw [hhd] at hj
        rw [List.getElem?_drop, List.getElem?_take_of_lt (by omega)]
        simp) (Nat.le_refl _) (by rw [hhd]; omega) inv' (by rw [hhd]; exact hB') hK'
      rw [hhd] at H2
      exact Heads.anyH (S := S) (fun w' ⟨z, hz⟩ => hz ▸ hCS z) (fun seen a'' w'' ⟨z, hz⟩ hL => by
        have := wpAnyH_of_seq (P := P) (md := .any) (S := S) (Q' := Exit.then (Q .normal) fun _ _ _ => False) (l.drop n) n seen a'' w'' (fun j => by simp [List.getElem?_drop]) (by rw [hdl]; exact hL.1) (hz ▸ hL.2 z)
        rwa [hdl] at this) _ _ _ w.drew ⟨⟨w.drew, (Below.refl _ _).drew⟩, rfl⟩ H2) h
  have e : (l.take m).length + (n - m + (l.length - n)) = l.toArray.size := by rw [htm, hsz]; omega
  rw [e] at H
  exact H
end
end Go.Proofs.YtneelidbgigehaaGreat

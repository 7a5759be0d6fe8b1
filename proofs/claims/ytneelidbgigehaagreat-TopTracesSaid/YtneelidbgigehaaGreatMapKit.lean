/- Maps whose keys are structs of two ints, with whatever elements: told as functions. -/
import Derived.Test.YtneelidbgigehaaGreatBase
import Derived.Maps.OwnSet
import Derived.Maps.RangeWalk
import Derived.DeepKeys4
namespace Go.Proofs.YtneelidbgigehaaGreat
set_option linter.unusedSimpArgs false
set_option linter.unusedVariables false
open Go Go.Maps Go.RowKit
abbrev Key := Int × Int
def kv (c : Key) : Value := .agg #[.int .i64 c.1, .int .i64 c.2]
def kl (c : Key) : Lit := .string (keyBytes [.int .i64 c.1, .int .i64 c.2])
def wfK (c : Key) : Prop := (Lit.int .i64 c.1).wf = true ∧ (Lit.int .i64 c.2).wf = true
/-- an element is told by itself -/
def heldR (v : Value) : Option (DataW Value × List MemPlace) := some (.held v, [])
/-- the key's type: a struct of two ints -/
structure KeyT (P : Program) (K : TypeId) : Prop where
  law : Keyed P K
  key : ∀ c : Key, wfK c → keyOf P K (kv c) = some (kl c)
  inv : ∀ (v : Value) (l : Lit), keyOf P K v = some l → ∃ c : Key, v = kv c ∧ wfK c ∧ l = kl c
section
variable {P : Program} {K : TypeId}
theorem KeyT.inj (T : KeyT P K) {c d : Key} (hc : wfK c) (hd : wfK d) (h : kl c = kl d) : c = d := by
  have := T.law.inj (T.key c hc) (by rw [h]; exact T.key d hd)
  unfold kv at this
  simp at this
  exact Prod.ext this.1 this.2
theorem KeyT.isKey (T : KeyT P K) {c : Key} (hc : wfK c) : WideAt.IsKeyLit (kl c) := T.law.key (T.key c hc)
/-- block b is a map of at most n entries that reads as F -/
def OwnM (P : Program) (K : TypeId) (w : World) (b n : Nat) (F : Key → Option Value) : Prop :=
  ∃ D, w.ownsMap P K heldR b n D ∧ ∀ c, wfK c → ∀ z, D.atKey (kl c) z = (match F c with | some v => .held v | none => z)
theorem OwnM.has {w : World} {b n : Nat} {F : Key → Option Value} {D : DataW Value} (h : ∀ c, wfK c → ∀ z, D.atKey (kl c) z = (match F c with | some v => .held v | none => z)) {c : Key} (hc : wfK c) : Maps.has D (kl c) = (F c).isSome := by
  cases hF : F c with
  | none => exact has_false_of_atKey fun z => by rw [h c hc, hF]
  | some v => exact has_true_of_atKey (y := .held v) fun z => by rw [h c hc, hF]
def updM (F : Key → Option Value) (c : Key) (v : Value) : Key → Option Value := fun d => if d = c then some v else F d
def delM (F : Key → Option Value) (c : Key) : Key → Option Value := fun d => if d = c then none else F d
theorem OwnM.made (w : World) : OwnM P K (w.alloc (.map #[] 0)) w.heap.size 0 (fun _ => none) :=
  ⟨_, World.ownsMap_made w P K heldR, fun c hc z => rfl⟩
theorem OwnM.mono {w : World} {b n n' : Nat} {F : Key → Option Value} (h : OwnM P K w b n F) (hn : n ≤ n') : OwnM P K w b n' F := by
  obtain ⟨D, h1, h2⟩ := h; exact ⟨D, h1.mono hn, h2⟩
theorem OwnM.lt {w : World} {b n : Nat} {F : Key → Option Value} (h : OwnM P K w b n F) : b < w.heap.size := by
  obtain ⟨D, h1, h2⟩ := h; exact h1.lt
theorem OwnM.kept {w w' : World} {b n : Nat} {F : Key → Option Value} {row : Option Nat} (h : OwnM P K w b n F) (hg : w.grownBy w' row) (hne : some b ≠ row) : OwnM P K w' b n F := by
  obtain ⟨D, h1, h2⟩ := h; exact ⟨D, h1.kept hg hne, h2⟩
theorem OwnM.ext {w : World} {b n : Nat} {F G : Key → Option Value} (h : OwnM P K w b n F) (e : ∀ c, wfK c → F c = G c) : OwnM P K w b n G := by
  obtain ⟨D, h1, h2⟩ := h; exact ⟨D, h1, fun c hc z => by rw [h2 c hc, e c hc]⟩
theorem OwnM.alloc {w : World} {b n : Nat} {F : Key → Option Value} (h : OwnM P K w b n F) (o : Obj) : OwnM P K (w.alloc o) b n F := by
  obtain ⟨D, h1, h2⟩ := h; exact ⟨D, h1.alloc o, h2⟩
theorem OwnM.drew {w : World} {b n : Nat} {F : Key → Option Value} (h : OwnM P K w b n F) : OwnM P K w.drew b n F := by
  obtain ⟨D, h1, h2⟩ := h; exact ⟨D, h1.drew, h2⟩
theorem OwnM.setCell {w : World} {b n : Nat} {F : Key → Option Value} (h : OwnM P K w b n F) {a : Addr} (ha : b ≠ a.block) (u : Value) : OwnM P K (w.setCell a u) b n F := by
  obtain ⟨D, h1, h2⟩ := h; exact ⟨D, h1.setCell ha u, h2⟩
/-- the map stays what it is while nothing older than a bound changes -/
theorem OwnM.below {w w' : World} {b n B : Nat} {F : Key → Option Value} (h : OwnM P K w b n F) (hb : Below B w w') (hlt : b < B) : OwnM P K w' b n F := by
  obtain ⟨D, ⟨es, clock, h1, h2, h3, h4⟩, h5⟩ := h
  have hlt2 : b < w.heap.size := (Array.getElem?_eq_some_iff.1 h1).1
  refine ⟨D, ⟨es, clock, ?_, h2, h3, h4⟩, h5⟩
  rw [hb.block b hlt]; exact h1
theorem heldR_inv {v : Value} {y : DataW Value × List MemPlace} (h : heldR v = some y) : y = (.held v, []) := by unfold heldR at h; exact (Option.some.inj h).symm
theorem OwnM.look {w : World} {b n : Nat} {F : Key → Option Value} {t e : TypeId} (h : OwnM P K w b n F) (T : KeyT P K) (ht : P.underlying t = some (.map K e)) {z : Value} (hz : (zeroValue e).run P w = .ok z w) {c : Key} (hc : wfK c) :
    (Instr.lookup t (.map (some b)) (kv c) false).run P w = .ok ((F c).getD z) w := by
  obtain ⟨D, h1, h2⟩ := h
  obtain ⟨v, ps, hrun, hv⟩ := h1.lookup T.law ht hz (zd := .held z) (zp := []) rfl (T.key c hc)
  have e := heldR_inv hv
  injection e with e1 e2
  rw [h2 c hc] at e1
  rw [hrun]
  cases hF : F c with
  | none => rw [hF] at e1; injection e1 with e1; subst e1; rfl
  | some u => rw [hF] at e1; injection e1 with e1; subst e1; rfl
theorem OwnM.update {w : World} {b n : Nat} {F : Key → Option Value} {t e : TypeId} (h : OwnM P K w b n F) (T : KeyT P K) (ht : P.underlying t = some (.map K e)) (hn : n < maxLen) {c : Key} (hc : wfK c) (v : Value) :
    ∃ w', (Instr.mapUpdate t (.map (some b)) (kv c) v).run P w = .ok () w' ∧ OwnM P K w' b (n + 1) (updM F c v) ∧ w.grownBy w' (some b) ∧ w'.heap.size = w.heap.size := by
  obtain ⟨D, h1, h2⟩ := h
  have hi := h1.isMap
  obtain ⟨es, clock, hb, F', hs, rfl⟩ := h1
  obtain ⟨es', clock', hrun, F'', hput, _⟩ := Maps.fit_store (R' := heldR) T.law ht hb F' (Nat.lt_of_le_of_lt hs hn) (fun _ _ _ _ hz => hz) (T.key c hc) (yv := (.held v, [])) rfl
  have hg : w.grownBy (ChangeMaps.setBlock w b (.map es' clock')) (some b) := ⟨rfl, rfl, rfl, by simp [ChangeMaps.setBlock], fun i _ hi => ChangeMaps.heap_setBlock_other hb _ (fun e => hi (by rw [e]))⟩
  refine ⟨_, hrun, ⟨_, ⟨es', clock', ChangeMaps.heap_setBlock_same hb _, F'', ?_, rfl⟩, fun d hd z => ?_⟩, hg, by simp [ChangeMaps.setBlock]⟩
  · have e1 : es'.size = ((es'.toList.map (WideElems.rg P K heldR)).foldr DataW.insert []).length := by rw [length_sorted]; simp
    rw [e1, hput]
    unfold ChangeMaps.putKey
    rw [length_insert]
    have e2 := List.length_filter_le (ChangeMaps.notKey (kl c)) ((es.toList.map (WideElems.rg P K heldR)).foldr DataW.insert [])
    rw [length_sorted] at e2
    simp at e2
    omega
  · rw [hput, ← DataW.put_eq]
    unfold updM
    by_cases e : d = c
    · subst e
      rw [if_pos rfl, atKey_put_same hi (T.isKey hd)]
    · rw [if_neg e, atKey_put_other (fun e' => e (T.inj hd hc e')), h2 d hd]
theorem OwnM.drop {w : World} {b n : Nat} {F : Key → Option Value} {t e ty : TypeId} (h : OwnM P K w b n F) (T : KeyT P K) (ht : P.underlying t = some (.map K e)) {c : Key} (hc : wfK c) :
    ∃ w', (Builtin.delete_ #[t, K] ty #[.map (some b), kv c]).run P w = .ok (.tuple #[]) w' ∧ OwnM P K w' b n (delM F c) ∧ w.grownBy w' (some b) ∧ w'.heap.size = w.heap.size := by
  obtain ⟨D, h1, h2⟩ := h
  obtain ⟨es, clock, hb, F', hs, rfl⟩ := h1
  obtain ⟨es', hrun, F'', hle, hdel, _⟩ := Maps.fit_drop (ty := ty) T.law ht hb F' (T.key c hc)
  have hg : w.grownBy (ChangeMaps.setBlock w b (.map es' clock)) (some b) := ⟨rfl, rfl, rfl, by simp [ChangeMaps.setBlock], fun i _ hi => ChangeMaps.heap_setBlock_other hb _ (fun e => hi (by rw [e]))⟩
  refine ⟨_, hrun, ⟨_, ⟨es', clock, ChangeMaps.heap_setBlock_same hb _, F'', Nat.le_trans hle hs, rfl⟩, fun d hd z => ?_⟩, hg, by simp [ChangeMaps.setBlock]⟩
  rw [hdel, ← DataW.del_eq]
  unfold delM
  by_cases e : d = c
  · subst e
    rw [if_pos rfl, atKey_del_same]
  · rw [if_neg e, atKey_del_other (fun e' => e (T.inj hd hc e')), h2 d hd]
end
section
variable {P : Program} (w : World) {ops : Array Oper} {rest : List Oper} {o : Oper} {a : Act} {Q : Exit → Act → World → Prop}
/-- 'm[k]' at the operation -/
theorem wpList_look (hg : o.guard = none) (m x : Operand) (t : TypeId) (hop : o.op = Op.lookup t m x false) (K e : TypeId) (T : KeyT P K) (ht : P.underlying t = some (.map K e)) (z : Value) (hz : (zeroValue e).run P w = .ok z w) (b n : Nat) (F : Key → Option Value)
    (hm : a.eval m = .map (some b)) (hown : OwnM P K w b n F) (c : Key) (hx : a.eval x = kv c) (hc : wfK c) (hK : wpList P ops Q rest (a.put o.dst ((F c).getD z)) w) : wpList P ops Q (o :: rest) a w := by
  refine wpList_plain hg fun K' hK' => ?_
  have hrun := hown.look T ht hz hc
  unfold Oper.wp
  simp [execOp, hop, hm, hx, hrun, Result.andThen]
  exact hK' _ _ hK
/-- 'm[k] = v' at the operation -/
theorem wpList_upd (hg : o.guard = none) (m x v : Operand) (t : TypeId) (hop : o.op = Op.mapUpdate t m x v) (K e : TypeId) (T : KeyT P K) (ht : P.underlying t = some (.map K e)) (b n : Nat) (F : Key → Option Value)
    (hm : a.eval m = .map (some b)) (hown : OwnM P K w b n F) (hn : n < maxLen) (c : Key) (val : Value) (hx : a.eval x = kv c) (hv : a.eval v = val) (hc : wfK c)
    (hK : ∀ w', OwnM P K w' b (n + 1) (updM F c val) → w.grownBy w' (some b) → w'.heap.size = w.heap.size → wpList P ops Q rest (a.put o.dst undef) w') : wpList P ops Q (o :: rest) a w := by
  refine wpList_plain hg fun K' hK' => ?_
  obtain ⟨w', hrun, r1, r2, r3⟩ := hown.update T ht hn hc val
  unfold Oper.wp
  simp [execOp, hop, hm, hx, hv, hrun, Result.andThen]
  exact hK' _ _ (hK w' r1 r2 r3)
/-- 'delete(m, k)' at the operation -/
theorem wpList_drp (hg : o.guard = none) (m x : Operand) (t K : TypeId) (hop : o.op = Op.call { callee := Callee.builtin Builtin.delete, args := #[m, x], argTypes := #[t, K] }) (e : TypeId) (T : KeyT P K) (ht : P.underlying t = some (.map K e)) (b n : Nat) (F : Key → Option Value)
    (hm : a.eval m = .map (some b)) (hown : OwnM P K w b n F) (c : Key) (hx : a.eval x = kv c) (hc : wfK c)
    (hK : ∀ w', OwnM P K w' b n (delM F c) → w.grownBy w' (some b) → w'.heap.size = w.heap.size → wpList P ops Q rest (a.put o.dst (.tuple #[])) w') : wpList P ops Q (o :: rest) a w := by
  refine wpList_plain hg fun K' hK' => ?_
  obtain ⟨w', hrun, r1, r2, r3⟩ := hown.drop (ty := o.type) T ht hc
  unfold Oper.wp
  simp [execOp, hop, resolve, invoke, builtin, hm, hx, hrun, Result.andThen]
  exact hK' _ _ (hK w' r1 r2 r3)
end
end Go.Proofs.YtneelidbgigehaaGreat

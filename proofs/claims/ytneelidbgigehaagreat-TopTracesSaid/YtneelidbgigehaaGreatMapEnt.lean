/- Maps: an entry that is read and stored anew (m[k] = append(m[k], ..), m[k]++), and a range over a map. -/
import Derived.Test.YtneelidbgigehaaGreatMapKit
import Derived.WideKeyEntry
namespace Go.Proofs.YtneelidbgigehaaGreat
set_option linter.unusedSimpArgs false
set_option linter.unusedVariables false
set_option maxRecDepth 100000
open Go Go.Maps Go.RowKit Go.WideElems
section
variable {P : Program} {K : TypeId}
theorem OwnM.of_block {w w' : World} {b n : Nat} {F : Key → Option Value} (h : OwnM P K w b n F) (hb : w'.heap[b]? = w.heap[b]?) : OwnM P K w' b n F := by
  obtain ⟨D, ⟨es, clock, h1, h2, h3, h4⟩, h5⟩ := h
  exact ⟨D, ⟨es, clock, hb.trans h1, h2, h3, h4⟩, h5⟩
/-- what is known between the entry's look-up and its store -/
def EntM (P : Program) (K t : TypeId) (b n : Nat) (F : Key → Option Value) (c : Key) (st : Int) (o : Option Obj) : Prop :=
  ∀ (w2 : World) (val : Value), w2.heap[b]? = o → ∃ w3, (Instr.entryStore t (.map (some b)) (goInt st) val).run P w2 = .ok () w3 ∧ OwnM P K w3 b (n + 1) (updM F c val) ∧ w2.grownBy w3 (some b) ∧ w3.heap.size = w2.heap.size
theorem OwnM.entry {w : World} {b n : Nat} {F : Key → Option Value} {t e : TypeId} (h : OwnM P K w b n F) (T : KeyT P K) (L : Go.WideMaps.KeyLaw P K) (ht : P.underlying t = some (.map K e)) {z : Value} (hz : ∀ u : World, (zeroValue e).run P u = .ok z u) (hn : n < maxLen) {c : Key} (hc : wfK c) :
    ∃ st w1, (Instr.mapEntry t (.map (some b)) (kv c)).run P w = .ok (.tuple #[(F c).getD z, goInt st]) w1 ∧ w.grownBy w1 (some b) ∧ w1.heap.size = w.heap.size ∧ EntM P K t b n F c st w1.heap[b]? := by
  have h0 := h
  obtain ⟨D, ⟨es, clock, hb, Ft, hs, rfl⟩, h2⟩ := h
  obtain ⟨v0, st, es1, clock1, hrun, hv0, hst⟩ := entry_then_store L ht hz hb Ft (T.key c hc)
  have hlk := h0.look T ht (hz w) hc
  have hkey := T.key c hc
  have e0 : v0 = (F c).getD z := by
    rcases L.find w hkey es.toList Ft.keys with ⟨f1, f2⟩ | ⟨j, e1, f1, f2, f3⟩
    · have hl : (Instr.lookup t (.map (some b)) (kv c) false).run P w = .ok z w := by
        simp [Instr.lookup, run_underlying ht, MapKept.run_getObj_map hb, L.check w _ hkey, f1, hz, Result.andThen]
      rw [hlk] at hl
      injection hl with hl _
      rcases hv0 with ⟨x, hx, hxk, _⟩ | ⟨_, h⟩
      · exact absurd hxk (f2 x hx)
      · rw [h, hl]
    · have hl : (Instr.lookup t (.map (some b)) (kv c) false).run P w = .ok e1.val w := by
        simp [Instr.lookup, run_underlying ht, MapKept.run_getObj_map hb, L.check w _ hkey, f1, hz, Result.andThen]
      rw [hlk] at hl
      injection hl with hl _
      have hj : es[j]? = some e1 := by simpa using f2
      have hsame : es.modify j (fun e => { e with key := kv c }) = es := by
        apply Array.ext'
        rw [Array.toList_modify, Go.ChangeMaps.modify_eq_set _ _ _ _ f2]
        have : ({ e1 with key := kv c } : MapEntry) = e1 := by rw [← f3]
        rw [this]
        exact set_self _ _ _ f2
      have hm : (Instr.mapEntry t (.map (some b)) (kv c)).run P w = .ok (.tuple #[e1.val, goInt e1.born]) (ChangeMaps.setBlock w b (.map es clock)) := by
        simp [Instr.mapEntry, run_underlying ht, MapKept.run_getObj_map hb, L.check w false hkey, f1, hj, f3, L.stays w hkey, hsame, MapKept.run_setObj_map _ hb, Result.andThen, ChangeMaps.setBlock]
      rw [hrun] at hm
      injection hm with hm _
      injection hm with hm
      have := congrArg (fun a : Array Value => a[0]?) hm
      simp at this
      rw [this, hl]
  subst e0
  have hg1 : w.grownBy (ChangeMaps.setBlock w b (.map es1 clock1)) (some b) := ⟨rfl, rfl, rfl, by simp [ChangeMaps.setBlock], fun i _ hi => ChangeMaps.heap_setBlock_other hb _ (fun e => hi (by rw [e]))⟩
  refine ⟨st, _, hrun, hg1, by simp [ChangeMaps.setBlock], fun w2 val hw2 => ?_⟩
  have hw3 : w2.heap[b]? = some (.map es1 clock1) := hw2.trans (ChangeMaps.heap_setBlock_same hb _)
  obtain ⟨es', clock', r1, r2⟩ := hst w2 val hw3
  obtain ⟨w', u1, u2, _, _⟩ := h0.update T ht hn hc val
  rw [r2] at u1
  injection u1 with _ u1
  subst u1
  refine ⟨_, r1, u2.of_block ?_, ⟨rfl, rfl, rfl, by simp [ChangeMaps.setBlock], fun i _ hi => ChangeMaps.heap_setBlock_other hw3 _ (fun e => hi (by rw [e]))⟩, by simp [ChangeMaps.setBlock]⟩
  rw [ChangeMaps.heap_setBlock_same hw3 _, ChangeMaps.heap_setBlock_same hb _]
end
/-- the look-up behind the entry's look-up yields what it yielded before -/
theorem OwnM.entry_look {P : Program} {K : TypeId} {w w1 : World} {b n : Nat} {F : Key → Option Value} {t e : TypeId} (h : OwnM P K w b n F) (T : KeyT P K) (L : Go.WideMaps.KeyLaw P K) (ht : P.underlying t = some (.map K e)) {z : Value} (hz : ∀ u : World, (zeroValue e).run P u = .ok z u) {c : Key} (hc : wfK c)
    {r : Value} (hrun : (Instr.mapEntry t (.map (some b)) (kv c)).run P w = .ok r w1) : (Instr.lookup t (.map (some b)) (kv c) false).run P w1 = .ok ((F c).getD z) w1 := by
  have h0 := h
  obtain ⟨D, ⟨es, clock, hb, Ft, hs, rfl⟩, h2⟩ := h
  have hkey := T.key c hc
  have hlk := h0.look T ht (hz w) hc
  rcases L.find w hkey es.toList Ft.keys with ⟨f1, f2⟩ | ⟨j, e1, f1, f2, f3⟩
  · have hl : (Instr.lookup t (.map (some b)) (kv c) false).run P w = .ok z w := by
      simp [Instr.lookup, run_underlying ht, MapKept.run_getObj_map hb, L.check w _ hkey, f1, hz, Result.andThen]
    rw [hlk] at hl
    have hl := (Go.Result.ok.inj hl).1
    have hm : (Instr.mapEntry t (.map (some b)) (kv c)).run P w = .ok (.tuple #[z, goInt clock]) (ChangeMaps.setBlock w b (.map (es.push ⟨kv c, z, clock⟩) (clock + 1))) := by
      simp [Instr.mapEntry, run_underlying ht, MapKept.run_getObj_map hb, L.check w false hkey, f1, hz, MapKept.run_setObj_map _ hb, Result.andThen, ChangeMaps.setBlock]
    rw [hrun] at hm
    obtain hw1 := (Go.Result.ok.inj hm).2
    subst hw1
    have hb1 := ChangeMaps.heap_setBlock_same hb (.map (es.push ⟨kv c, z, clock⟩) (clock + 1))
    rcases L.find (ChangeMaps.setBlock w b (.map (es.push ⟨kv c, z, clock⟩) (clock + 1))) hkey (es.push ⟨kv c, z, clock⟩).toList (fun x hx => by
      simp only [Array.toList_push, List.mem_append, List.mem_singleton] at hx
      rcases hx with hx | rfl
      · exact Ft.keys x hx
      · exact ⟨_, hkey⟩) with ⟨g1, g2⟩ | ⟨j, e1, g1, g2, g3⟩
    · exact absurd rfl (g2 ⟨kv c, z, clock⟩ (by simp))
    · have he : e1.val = z := by
        have := List.mem_of_getElem? g2
        simp only [Array.toList_push, List.mem_append, List.mem_singleton] at this
        rcases this with hx | rfl
        · exact absurd g3 (f2 e1 hx)
        · rfl
      rw [hl]
      rw [Array.toList_push] at g1
      simp [Instr.lookup, run_underlying ht, MapKept.run_getObj_map hb1, L.check _ _ hkey, g1, hz, Result.andThen, he]
  · have hl : (Instr.lookup t (.map (some b)) (kv c) false).run P w = .ok e1.val w := by
      simp [Instr.lookup, run_underlying ht, MapKept.run_getObj_map hb, L.check w _ hkey, f1, hz, Result.andThen]
    have hj : es[j]? = some e1 := by simpa using f2
    have hsame : es.modify j (fun e => { e with key := kv c }) = es := by
      apply Array.ext'
      rw [Array.toList_modify, Go.ChangeMaps.modify_eq_set _ _ _ _ f2]
      have : ({ e1 with key := kv c } : MapEntry) = e1 := by rw [← f3]
      rw [this]
      exact set_self _ _ _ f2
    have hm : (Instr.mapEntry t (.map (some b)) (kv c)).run P w = .ok (.tuple #[e1.val, goInt e1.born]) (ChangeMaps.setBlock w b (.map es clock)) := by
      simp [Instr.mapEntry, run_underlying ht, MapKept.run_getObj_map hb, L.check w false hkey, f1, hj, f3, L.stays w hkey, hsame, MapKept.run_setObj_map _ hb, Result.andThen, ChangeMaps.setBlock]
    rw [hrun] at hm
    obtain hw1 := (Go.Result.ok.inj hm).2
    subst hw1
    have hb1 := ChangeMaps.heap_setBlock_same hb (.map es clock)
    have h9 : OwnM P K (ChangeMaps.setBlock w b (.map es clock)) b n F := h0.of_block (hb1.trans hb.symm)
    exact h9.look T ht (hz _) hc
section
variable {P : Program} {w : World} {ops : Array Oper} {rest : List Oper} {o : Oper} {a : Act} {Q : Exit → Act → World → Prop} {K : Act → World → Prop} {E : Prop}
/-- the entry's look-up, as one step of a region taken by hand -/
theorem step_entry (hgd : o.guard = none) (m x : Operand) (t : TypeId) (hop : o.op = Op.mapEntry t m x) (KT e : TypeId) (T : KeyT P KT) (L : Go.WideMaps.KeyLaw P KT) (ht : P.underlying t = some (.map KT e)) (z : Value) (hz : ∀ u : World, (zeroValue e).run P u = .ok z u) (b n : Nat) (F : Key → Option Value)
    (hm : a.eval m = .map (some b)) (hown : OwnM P KT w b n F) (hn : n < maxLen) (c : Key) (hx : a.eval x = kv c) (hc : wfK c)
    (hK : ∀ st w1, w.grownBy w1 (some b) → w1.heap.size = w.heap.size → EntM P KT t b n F c st w1.heap[b]? → (Instr.lookup t (.map (some b)) (kv c) false).run P w1 = .ok ((F c).getD z) w1 → K (a.put o.dst (.tuple #[(F c).getD z, goInt st])) w1) :
    if Region.wanted o (yielded ops a.tmps) = true then Oper.wp P o a w K Q else E := by
  have hw : Region.wanted o (yielded ops a.tmps) = true := by simp [Region.wanted, hgd]
  rw [if_pos hw]
  obtain ⟨st, w1, hrun, h1, h2, h3⟩ := hown.entry T L ht hz hn hc
  unfold Oper.wp
  simp only [execOp, hop, hm, hx]
  simp [hrun, Result.andThen, Oper.upon]
  exact hK st w1 h1 h2 h3 (hown.entry_look T L ht hz hc hrun)
theorem step_entrySt (hgd : o.guard = none) (m s v : Operand) (t : TypeId) (hop : o.op = Op.entryStore t m s v) (KT : TypeId) (b n : Nat) (F : Key → Option Value) (c : Key) (st : Int) (ob : Option Obj)
    (hE : EntM P KT t b n F c st ob) (hb : w.heap[b]? = ob) (hm : a.eval m = .map (some b)) (hs : a.eval s = goInt st) (val : Value) (hv : a.eval v = val)
    (hK : ∀ w3, OwnM P KT w3 b (n + 1) (updM F c val) → w.grownBy w3 (some b) → w3.heap.size = w.heap.size → K (a.put o.dst undef) w3) :
    if Region.wanted o (yielded ops a.tmps) = true then Oper.wp P o a w K Q else E := by
  have hw : Region.wanted o (yielded ops a.tmps) = true := by simp [Region.wanted, hgd]
  rw [if_pos hw]
  obtain ⟨w3, hrun, h1, h2, h3⟩ := hE w val hb
  unfold Oper.wp
  simp only [execOp, hop, hm, hs, hv]
  simp [hrun, Result.andThen, Oper.upon]
  exact hK w3 h1 h2 h3
/-- the same in a list of operations -/
theorem wpList_entry (hgd : o.guard = none) (m x : Operand) (t : TypeId) (hop : o.op = Op.mapEntry t m x) (KT e : TypeId) (T : KeyT P KT) (L : Go.WideMaps.KeyLaw P KT) (ht : P.underlying t = some (.map KT e)) (z : Value) (hz : ∀ u : World, (zeroValue e).run P u = .ok z u) (b n : Nat) (F : Key → Option Value)
    (hm : a.eval m = .map (some b)) (hown : OwnM P KT w b n F) (hn : n < maxLen) (c : Key) (hx : a.eval x = kv c) (hc : wfK c)
    (hK : ∀ st w1, w.grownBy w1 (some b) → w1.heap.size = w.heap.size → EntM P KT t b n F c st w1.heap[b]? → wpList P ops Q rest (a.put o.dst (.tuple #[(F c).getD z, goInt st])) w1) : wpList P ops Q (o :: rest) a w := by
  refine wpList_plain hgd fun K' hK' => ?_
  obtain ⟨st, w1, hrun, h1, h2, h3⟩ := hown.entry T L ht hz hn hc
  unfold Oper.wp
  simp [execOp, hop, hm, hx, hrun, Result.andThen]
  exact hK' _ _ (hK st w1 h1 h2 h3)
theorem wpList_entrySt (hgd : o.guard = none) (m s v : Operand) (t : TypeId) (hop : o.op = Op.entryStore t m s v) (KT : TypeId) (b n : Nat) (F : Key → Option Value) (c : Key) (st : Int) (ob : Option Obj)
    (hE : EntM P KT t b n F c st ob) (hb : w.heap[b]? = ob) (hm : a.eval m = .map (some b)) (hs : a.eval s = goInt st) (val : Value) (hv : a.eval v = val)
    (hK : ∀ w3, OwnM P KT w3 b (n + 1) (updM F c val) → w.grownBy w3 (some b) → w3.heap.size = w.heap.size → wpList P ops Q rest (a.put o.dst undef) w3) : wpList P ops Q (o :: rest) a w := by
  refine wpList_plain hgd fun K' hK' => ?_
  obtain ⟨w3, hrun, h1, h2, h3⟩ := hE w val hb
  unfold Oper.wp
  simp [execOp, hop, hm, hs, hv, hrun, Result.andThen]
  exact hK' _ _ (hK w3 h1 h2 h3)
end
end Go.Proofs.YtneelidbgigehaaGreat

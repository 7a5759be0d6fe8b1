/- Lemmas: MapEnt MapStruct RowKit CtrKey FloatH. -/
import Derived.WideKeyEntry
import Derived.WalkKit
import Derived.ProofKit
import Derived.OpenShut
import Derived.ChangeOld
import Derived.Below
import Derived.Lib.SmallJoins
import Derived.Deep.Slices
import Derived.Deep.Fields
import Derived.DeepKeys4
import Derived.OrdersHeld
import Derived.Test.YtneelidbgigehaaGreatT09
import Derived.Test.YtneelidbgigehaaGreatRows
import Derived.Test.YtneelidbgigehaaGreatT01
/- Maps: an entry that is read and stored anew (m[k] = append(m[k], ..), m[k]++), and a range over a map. -/
namespace Go.Proofs.YtneelidbgigehaaGreat
set_option linter.unusedSimpArgs false
set_option linter.unusedVariables false
set_option maxRecDepth 100000
open Go Go.Maps Go.RowKit Go.WideElems
section
variable {P : Program} {K : TypeId}
theorem OwnM.of_block {w w' : World} {b n : Nat} {F : Key → Option Value} (h : OwnM P K w b n F) (hb : w'.heap[b]? = w.heap[b]?) : OwnM P K w' b n F := by
  obtain ⟨D, ⟨es, clock, h1, h2, h3, h4⟩, h5⟩ := h
  exact ⟨D, ⟨es, clock, hb.trans h1, h2, h3, h4⟩, h5⟩
/-- what is known between the entry's look-up and its store -/
def EntM (P : Program) (K t : TypeId) (b n : Nat) (F : Key → Option Value) (c : Key) (st : Int) (o : Option Obj) : Prop :=
  ∀ (w2 : World) (val : Value), w2.heap[b]? = o → ∃ w3, (Instr.entryStore t (.map (some b)) (goInt st) val).run P w2 = .ok () w3 ∧ OwnM P K w3 b (n + 1) (updM F c val) ∧ w2.grownBy w3 (some b) ∧ w3.heap.size = w2.heap.size
theorem OwnM.entry {w : World} {b n : Nat} {F : Key → Option Value} {t e : TypeId} (h : OwnM P K w b n F) (T : KeyT P K) (L : Go.WideMaps.KeyLaw P K) (ht : P.underlying t = some (.map K e)) {z : Value} (hz : ∀ u : World, (zeroValue e).run P u = .ok z u) (hn : n < maxLen) {c : Key} (hc : wfK c) :
    ∃ st w1, (Instr.mapEntry t (.map (some b)) (kv c)).run P w = .ok (.tuple #[(F c).getD z, goInt st]) w1 ∧ w.grownBy w1 (some b) ∧ w1.heap.size = w.heap.size ∧ EntM P K t b n F c st w1.heap[b]? := by
  have h0 := h
  obtain ⟨D, ⟨es, clock, hb, Ft, hs, rfl⟩, h2⟩ := h
  obtain ⟨v0, st, es1, clock1, hrun, hv0, hst⟩ := entry_then_store L ht hz hb Ft (T.key c hc)
  have hlk := h0.look T ht (hz w) hc
  have hkey := T.key c hc
  have e0 : v0 = (F c).getD z := by
    rcases L.find w hkey es.toList Ft.keys with ⟨f1, f2⟩ | ⟨j, e1, f1, f2, f3⟩
    · have hl : (Instr.lookup t (.map (some b)) (kv c) false).run P w = .ok z w := by
        simp [Instr.lookup, run_underlying ht, MapKept.run_getObj_map hb, L.check w _ hkey, f1, hz, Result.andThen]
      rw [hlk] at hl
      injection hl with hl _
      rcases hv0 with ⟨x, hx, hxk, _⟩ | ⟨_, h⟩
      · exact absurd hxk (f2 x hx)
      · rw [h, hl]
    · have hl : (Instr.lookup t (.map (some b)) (kv c) false).run P w = .ok e1.val w := by
        simp [Instr.lookup, run_underlying ht, MapKept.run_getObj_map hb, L.check w _ hkey, f1, hz, Result.andThen]
      rw [hlk] at hl
      injection hl with hl _
      have hj : es[j]? = some e1 := by simpa using f2
      have hsame : es.modify j (fun e => { e with key := kv c }) = es := by
        apply Array.ext'
        rw [Array.toList_modify, Go.ChangeMaps.modify_eq_set _ _ _ _ f2]
        have : ({ e1 with key := kv c } : MapEntry) = e1 := by rw [← f3]
        rw [this]
        exact set_self _ _ _ f2
      have hm : (Instr.mapEntry t (.map (some b)) (kv c)).run P w = .ok (.tuple #[e1.val, goInt e1.born]) (ChangeMaps.setBlock w b (.map es clock)) := by
        simp [Instr.mapEntry, run_underlying ht, MapKept.run_getObj_map hb, L.check w false hkey, f1, hj, f3, L.stays w hkey, hsame, MapKept.run_setObj_map _ hb, Result.andThen, ChangeMaps.setBlock]
      rw [hrun] at hm
      injection hm with hm _
      injection hm with hm
      have := congrArg (fun a : Array Value => a[0]?) hm
      simp at this
      rw [this, hl]
  subst e0
  have hg1 : w.grownBy (ChangeMaps.setBlock w b (.map es1 clock1)) (some b) := ⟨rfl, rfl, rfl, by simp [ChangeMaps.setBlock], fun i _ hi => ChangeMaps.heap_setBlock_other hb _ (fun e => hi (by rw [e]))⟩
  refine ⟨st, _, hrun, hg1, by simp [ChangeMaps.setBlock], fun w2 val hw2 => ?_⟩
  have hw3 : w2.heap[b]? = some (.map es1 clock1) := hw2.trans (ChangeMaps.heap_setBlock_same hb _)
  obtain ⟨es', clock', r1, r2⟩ := hst w2 val hw3
  obtain ⟨w', u1, u2, _, _⟩ := h0.update T ht hn hc val
  rw [r2] at u1
  injection u1 with _ u1
  subst u1
  refine ⟨_, r1, u2.of_block ?_, ⟨rfl, rfl, rfl, by simp [ChangeMaps.setBlock], fun i _ hi => ChangeMaps.heap_setBlock_other hw3 _ (fun e => hi (by rw [e]))⟩, by simp [ChangeMaps.setBlock]⟩
  rw [ChangeMaps.heap_setBlock_same hw3 _, ChangeMaps.heap_setBlock_same hb _]
end
section
variable {P : Program} {w : World} {ops : Array Oper} {rest : List Oper} {o : Oper} {a : Act} {Q : Exit → Act → World → Prop} {K : Act → World → Prop} {E : Prop}
end
end Go.Proofs.YtneelidbgigehaaGreat

/- The law of keys that are structs of two ints. -/
namespace Go.Proofs.YtneelidbgigehaaGreat
set_option linter.unusedSimpArgs false
set_option linter.unusedVariables false
set_option maxRecDepth 100000
open Go Go.Maps Go.RowKit
theorem keyT_of {P : Program} {K I : TypeId} {f0 f1 : Field} (law : Keyed P K) (hu : P.underlying K = some (.struct #[f0, f1])) (h0 : f0.type = I ∧ f0.offset = 0 ∧ (f0.name != "_") = true) (h1 : f1.type = I ∧ f1.offset = 1 ∧ (f1.name != "_") = true)
    (hi : P.underlying I = some (.int .i64)) (hc : P.cellsOf K = 2) (hci : P.cellsOf I = 1) (hkt : P.keyType K = true) (hsz : ∃ m, P.types.size = m + 1) : KeyT P K := by
  obtain ⟨m, hm⟩ := hsz
  have lits : ∀ cs : List Value, P.keyLits (P.types.size + 1) K cs = (if cs.length = 2 then ((P.keyLits (m + 1) I (cs.take 1)).bind fun a => (P.keyLits (m + 1) I ((cs.drop 1).take 1)).map fun b => a ++ b) else none) := fun cs => by
    rw [hm]
    conv => lhs; unfold Program.keyLits
    simp only [hu]
    rw [hc]
    have e : (#[f0, f1].all fun x => x.name != "_") = true := by simp [h0.2.2, h1.2.2]
    by_cases hl : cs.length = 2
    · rw [if_pos ⟨hl, e⟩, if_pos hl]
      simp only [List.mapM_cons, List.mapM_nil, h0.1, h0.2.1, h1.1, h1.2.1, hci, List.drop_zero]
      rcases P.keyLits (m + 1) I (cs.take 1) with _ | la
      · rfl
      · rcases P.keyLits (m + 1) I ((cs.drop 1).take 1) with _ | lb
        · rfl
        · simp
    · rw [if_neg (fun h => hl h.1), if_neg hl]
  have int1 : ∀ x : Int, (Lit.int .i64 x).wf = true → P.keyLits (m + 1) I [.int .i64 x] = some [.int .i64 x] := fun x hx => by
    unfold Program.keyLits; simp [hi, hx]
  have inv1 : ∀ (cs : List Value) ls, cs.length = 1 → P.keyLits (m + 1) I cs = some ls → ∃ x : Int, cs = [.int .i64 x] ∧ (Lit.int .i64 x).wf = true ∧ ls = [.int .i64 x] := fun cs ls hl h => by
    match cs, hl with
    | [v], _ =>
      unfold Program.keyLits at h
      rw [hi] at h
      cases v <;> simp at h
      obtain ⟨⟨rfl, hw⟩, rfl⟩ := h
      exact ⟨_, rfl, hw, rfl⟩
  refine ⟨law, fun c hcw => ?_, fun v l h => ?_⟩
  · unfold keyOf
    simp only [hu]
    rw [if_pos (by simp [hkt, kv, Value.formed, hu, hc])]
    show Option.map _ (P.keyLits (P.types.size + 1) K [.int .i64 c.1, .int .i64 c.2]) = _
    have hll : ([Value.int .i64 c.1, Value.int .i64 c.2] : List Value).length = 2 := rfl
    rw [lits, if_pos hll]
    show Option.map _ ((P.keyLits (m + 1) I [.int .i64 c.1]).bind fun a => (P.keyLits (m + 1) I [.int .i64 c.2]).map fun b => a ++ b) = _
    rw [int1 c.1 hcw.1, int1 c.2 hcw.2]
    rfl
  · unfold keyOf at h
    simp only [hu] at h
    split at h
    · rename_i hf
      simp only [Bool.and_eq_true] at hf
      cases v <;> simp [Value.formed, hu, hc] at hf
      rename_i cs
      simp only [Value.cells] at h
      rw [lits] at h
      have hl : cs.toList.length = 2 := by simpa using hf.2
      rw [if_pos hl] at h
      match hcs : cs.toList, hl with
      | [a, b], _ =>
        rw [hcs] at h
        simp only [List.take_succ_cons, List.take_zero, List.drop_succ_cons, List.drop_zero] at h
        cases h1 : P.keyLits (m + 1) I [a] with
        | none => rw [h1] at h; simp at h
        | some la =>
          cases h2 : P.keyLits (m + 1) I [b] with
          | none => rw [h1, h2] at h; simp at h
          | some lb =>
            obtain ⟨x, e1, w1, rfl⟩ := inv1 _ _ rfl h1
            obtain ⟨y, e2, w2, rfl⟩ := inv1 _ _ rfl h2
            rw [h1, h2] at h
            simp at h e1 e2
            subst e1 e2
            refine ⟨(x, y), ?_, ⟨w1, w2⟩, h.symm⟩
            unfold kv
            have : cs = #[.int .i64 x, .int .i64 y] := by rw [← Array.toArray_toList (xs := cs), hcs]
            rw [this]
    · cases h
end Go.Proofs.YtneelidbgigehaaGreat

/- From a walk to a row: arguments opened to points, segments and lists of points; the row's last step. -/
namespace Go.Proofs.YtneelidbgigehaaGreat
set_option linter.unusedSimpArgs false
set_option linter.unusedVariables false
open Go.ChangeShapes Go.WideShapes Go.ChangeAt Go.RowKit Go.Joins
set_option maxRecDepth 100000 in
theorem own : ownKnob Tryz.prog.godebug = none := by kernel_rfl
set_option maxRecDepth 100000 in
theorem laidOut : laidOutB Tryz.prog = true := by kernel_rfl
section
variable {H : Type} {enc : TypeId × Value → H} {P : Program} {W W' : World}
/-- all arguments read behind the call as before it -/
theorem below_trodAll (hl : laidOutB P = true) (hb : Below W.heap.size W W') : ∀ (ts : List TypeId) (vs : List Value) (ds : List (DataW H)) (ps : List MemPlace),
    (∀ t ∈ ts, P.readableRec t = true ∧ t < P.types.size) → (∀ x ∈ ps, x.block < W.heap.size) →
    DataW.TrodAll enc P W 0 (fun _ => true) true ts vs ds ps → DataW.TrodAll enc P W' 0 (fun b => decide (b < W.heap.size)) true ts vs ds ps
  | [], vs, ds, ps, _, _, h => by
    cases vs <;> cases ds <;> simp [DataW.TrodAll] at h ⊢
    exact h
  | t :: ts, vs, ds, ps, hr, hlt, h => by
    obtain ⟨v, vs', d, ds', p, q, rfl, rfl, rfl, h1, h2⟩ := trodAll_cons h
    refine trodAll_cons_mk ?_ (below_trodAll hl hb ts vs' ds' q (fun t ht => hr t (List.mem_cons_of_mem _ ht)) (fun x hx => hlt x (List.mem_append_right _ hx)) h2)
    have := hr t (List.mem_cons_self ..)
    exact Below.trod hl this.1 this.2 h1 hb (fun x hx => hlt x (List.mem_append_left _ hx))
end
/-- a number that an int holds -/
def i64 (n : Int) : Prop := -9223372036854775808 ≤ n ∧ n ≤ 9223372036854775807
theorem i64_of {n : Int} (h : (Lit.int .i64 n).wf = true) : i64 n := by
  exact bounds_i64 h
section
variable {H : Type} {enc : TypeId × Value → H} {W : World} {base : Nat} {spare : Nat → Bool} {held : Bool} {r : Reach} {b0 : Nat} {v : Value} {d : DataW H} {ps : List MemPlace}
set_option maxRecDepth 100000 in
theorem open_i64 (hv : Value.okWide Tryz.prog W r b0 3 v) (h : DataW.Trod enc Tryz.prog W base spare held 3 v d ps) : ∃ n : Int, v = .int .i64 n ∧ i64 n := by
  obtain ⟨n, rfl, _, _, wf⟩ := open_int Tryz.underlying3 hv h
  exact ⟨n, rfl, i64_of wf⟩
end
section
variable {H : Type} {enc' : TypeId × Value → H} {P : Program} {W : World} {spare : Nat → Bool} {held : Bool} {α : Type}
/-- a slice that came in reads as a list, if its elements do -/
theorem rd_slice {k : Nat} {enc : α → List Value} {R : α → Prop} {t e : TypeId} (ht : P.underlying t = some (.slice e)) (hk : P.cellsOf e = k) (hk0 : 0 < k) (henc : ∀ x, (enc x).length = k)
    (helt : ∀ (n : Nat) (cs' : List Value) (y : DataW H × List MemPlace), DataW.trod enc' P W 0 spare held n e cs' = some y → ∃ x : α, cs' = enc x ∧ R x)
    {fuel : Nat} {v : Value} {x : DataW H × List MemPlace} (h : DataW.trod enc' P W 0 spare held fuel t [v] = some x) : ∃ xs : List α, Rd k enc W v xs ∧ ∀ x ∈ xs, R x := by
  rcases Go.Deep.open_slice ht h with ⟨hc, _⟩ | ⟨a, len, cap, m, n, D, Pl, hc, _, hl, _, hm, _, hi⟩
  · simp only [List.cons.injEq, and_true] at hc
    subst hc
    exact ⟨[], Rd.nil, by simp⟩
  · simp only [List.cons.injEq, and_true] at hc
    subst hc
    have hlm : len ≤ m := by rw [hm]; split <;> omega
    have each : ∀ i, i < len → ∃ x : α, R x ∧ ∀ j, j < k → W.cell? (a.add (i * k + j)) = (enc x)[j]? := by
      intro i hi'
      obtain ⟨cs', hcs, ht'⟩ := hi i (by omega)
      obtain ⟨x, rfl, hR⟩ := helt n cs' _ ht'
      rw [hk] at hcs
      obtain ⟨_, _, hat⟩ := World.cells?_some hcs
      refine ⟨x, hR, fun j hj => ?_⟩
      rw [← hat j hj, Go.Deep.add_add]
    have hlist : ∀ n, n ≤ len → ∃ xs : List α, xs.length = n ∧ (∀ x ∈ xs, R x) ∧ ∀ i x, xs[i]? = some x → ∀ j, j < k → W.cell? (a.add (i * k + j)) = (enc x)[j]? := by
      intro n
      induction n with
      | zero => intro _; exact ⟨[], rfl, by simp, by simp⟩
      | succ n ih =>
        intro hn
        obtain ⟨xs, h1, h2, h3⟩ := ih (by omega)
        obtain ⟨x, hR, hx⟩ := each n (by omega)
        refine ⟨xs ++ [x], by simp [h1], ?_, ?_⟩
        · intro y hy
          rcases List.mem_append.1 hy with hy | hy
          · exact h2 y hy
          · simp at hy; rw [hy]; exact hR
        · intro i y hy j hj
          by_cases hlt : i < xs.length
          · rw [List.getElem?_append_left hlt] at hy; exact h3 i y hy j hj
          · rw [List.getElem?_append_right (by omega)] at hy
            have : i - xs.length = 0 := by
              rcases Nat.eq_zero_or_pos (i - xs.length) with h0 | h0
              · exact h0
              · rw [List.getElem?_eq_none (by simp; omega)] at hy; cases hy
            rw [this] at hy; simp at hy; subst hy
            have : i = n := by omega
            subst this; exact hx j hj
    obtain ⟨xs, h1, h2, h3⟩ := hlist len (Nat.le_refl _)
    refine ⟨xs, ⟨some a, cap, by rw [h1], by omega, ?_⟩, h2⟩
    rcases xs with _ | ⟨x0, xs⟩
    · exact .inl rfl
    · right
      have h0 := h3 0 x0 rfl 0 hk0
      have hen : ∃ u, (enc x0)[0]? = some u := ⟨_, List.getElem?_eq_getElem (by rw [henc]; exact hk0)⟩
      obtain ⟨u0, hu0⟩ := hen
      have ea : a.add (0 * k + 0) = a := by simp [Addr.add]
      rw [ea, hu0] at h0
      obtain ⟨b, off, spot⟩ := a
      have hs : spot = none := by
        cases spot with
        | none => rfl
        | some s => simp [World.cell?] at h0; split at h0 <;> cases h0
      subst hs
      refine ⟨b, off, rfl, World.block_lt_of_cell? W _ h0, fun i y hy j u hu => ?_⟩
      have hj : j < k := by rw [← henc y]; exact (List.getElem?_eq_some_iff.1 hu).1
      have := h3 i y hy j hj
      rw [hu] at this
      have e : (⟨b, off, none⟩ : Addr).add (i * k + j) = ⟨b, off + i * k + j, none⟩ := by unfold Addr.add; split <;> simp_all <;> omega
      rwa [e] at this
end
end Go.Proofs.YtneelidbgigehaaGreat

/- Points as keys of maps. -/
namespace Go.Proofs.YtneelidbgigehaaGreat
set_option linter.unusedSimpArgs false
set_option linter.unusedVariables false
set_option maxRecDepth 100000
open Go Go.Maps Go.RowKit
theorem ptRow : (60 : TypeId) < Tryz.prog.types.size := of_decide_eq_true (by kernel_rfl)
theorem ptLaw : Go.WideMaps.KeyLaw Tryz.prog 60 := deep_law_laid laidOut (m := 2) (by omega) ptRow (by kernel_rfl) (by rw [Tryz.underlying60])
theorem ptKeyed : Keyed Tryz.prog 60 := Keyed.of_law ptLaw
theorem ptKey : KeyT Tryz.prog 60 :=
  keyT_of (I := 3) ptKeyed Tryz.underlying60 (by decide) (by decide) Tryz.underlying3 (by kernel_rfl) (by kernel_rfl) (by kernel_rfl) ⟨Tryz.prog.types.size - 1, (Nat.sub_add_cancel (Nat.succ_le_of_lt (Nat.lt_of_le_of_lt (Nat.zero_le _) ptRow))).symm⟩
end Go.Proofs.YtneelidbgigehaaGreat

/- A region that draws its order: operations that float past a call (each yields what a condition on the world gives), quiet operations, and a chain at whose every step the condition is shown. -/
namespace Go.Proofs.YtneelidbgigehaaGreat
set_option linter.unusedSimpArgs false
set_option linter.unusedVariables false
open Go.RowKit
section
variable {P : Program} {ops : Array Oper} {md : Region.Mode} {C S : World → Prop}
/-- operations taken first, each of which yields in every world that meets S -/
def TakeS (P : Program) (ops : Array Oper) (S : World → Prop) (K : Act → Prop) : List Oper → Act → Prop
  | [], a => K a
  | o :: l, a => ∃ v, YieldsIf P ops S o v a ∧ TakeS P ops S K l (a.put o.dst v)
theorem takeS_nil {K : Act → Prop} {a : Act} (h : K a) : TakeS P ops S K [] a := h
theorem takeS_cons {K : Act → Prop} {o : Oper} {l : List Oper} {a : Act} {v : Value} (hw : Region.wanted o (yielded ops a.tmps) = true) (hr : ∀ w, S w → (execOp a.eval o).run P w = .ok (.value v) w) (h : TakeS P ops S K l (a.put o.dst v)) : TakeS P ops S K (o :: l) a := ⟨v, .inl ⟨hw, hr⟩, h⟩
def floatsB (l : List Oper) (m n : Nat) : Bool :=
  Region.noSelect l.toArray && decide (m ≤ n) && decide (n < l.length) && sinkFrom .any l.toArray m n && Region.chainB .any l.toArray n && Region.lexHead .any l.toArray (l.length - n) n 0 (Array.replicate l.length false)
end
end Go.Proofs.YtneelidbgigehaaGreat

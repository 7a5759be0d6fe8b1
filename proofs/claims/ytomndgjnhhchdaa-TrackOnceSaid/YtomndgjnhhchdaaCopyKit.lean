/- copy within a row of the call's own: elements of k cells. -/
import Derived.Test.YtomndgjnhhchdaaBase
import Derived.Laws.CopyRow
import Derived.Laws.IdiomCopy
namespace Go.Proofs.Ytomndgjnhhchdaa
set_option linter.unusedSimpArgs false
set_option linter.unusedVariables false
open Go.RowKit
section
variable {P : Program}
theorem run_copy_rowk (w : World) (dT sT ty elem : TypeId) (g o dLen dCap : Nat) (a : Addr) (sLen sCap : Nat) (cur : Array Value) (t : TypeId) (cs : List Value) {k : Nat}
    (hu : P.underlying dT = some (.slice elem)) (hs : (P.info? elem).map (·.size) = some k)
    (hg : w.heap[g]? = some (.cells cur t (0, 0))) (hn : cs.length = Nat.min sLen dLen * k)
    (hsrc : ∀ j v, cs[j]? = some v → w.cell? (a.add j) = some v) (hfit : o + cs.length ≤ cur.size) (h1 : ∀ v ∈ cs, v.oneCell' = true) :
    (Builtin.copy_ #[dT, sT] ty #[.slice (some ⟨g, o, none⟩) dLen dCap, .slice (some a) sLen sCap]).run P w =
      .ok (goInt (Nat.min sLen dLen)) (w.setRow g (cur.toList.take o ++ cs ++ cur.toList.drop (o + cs.length)).toArray) := by
  have hl := run_loadCells_list (P := P) w a cs hsrc
  have hst := run_storeCells_at P g o t cs 0 cur w hg (by simpa using hfit) h1
  cases hq : P.info? elem with
  | none => simp [hq] at hs
  | some i =>
    have hi : i.size = k := by simpa [hq] using hs
    simp [Builtin.copy_, run_underlying hu, Builtin.lenOf, Builtin.firstCells, sizeOf, typeInfo, hq, hi, ← hn, hl, hst]
theorem step_copy_rowk {ops : Array Oper} {o : Oper} {a : Act} {w : World} {K : Act → World → Prop} {Q : Exit → Act → World → Prop} {E : Prop} (hgd : o.guard = none) (d s : Operand) (dT sT : TypeId)
    (ho : o.op = .call { callee := .builtin .copy, args := #[d, s], argTypes := #[dT, sT] }) (elem : TypeId) (hu : P.underlying dT = some (.slice elem)) {k : Nat} (hsz : (P.info? elem).map (·.size) = some k)
    (g off dLen dCap : Nat) (ad : Addr) (sLen sCap : Nat) (hd : a.eval d = .slice (some ⟨g, off, none⟩) dLen dCap) (hs : a.eval s = .slice (some ad) sLen sCap)
    (cur : Array Value) (t : TypeId) (hg : w.heap[g]? = some (.cells cur t (0, 0))) (cs : List Value) (hn : cs.length = Nat.min sLen dLen * k)
    (hsrc : ∀ j v, cs[j]? = some v → w.cell? (ad.add j) = some v) (hfit : off + cs.length ≤ cur.size) (h1 : ∀ v ∈ cs, v.oneCell' = true)
    (h : K (a.put o.dst (goInt (Nat.min sLen dLen))) (w.setRow g (cur.toList.take off ++ cs ++ cur.toList.drop (off + cs.length)).toArray)) :
    if Region.wanted o (yielded ops a.tmps) = true then Oper.wp P o a w K Q else E := by
  have hw : Region.wanted o (yielded ops a.tmps) = true := by simp [Region.wanted, hgd]
  rw [if_pos hw]
  have hrun := run_copy_rowk (P := P) w dT sT o.type elem g off dLen dCap ad sLen sCap cur t cs hu hsz hg hn hsrc hfit h1
  unfold Oper.wp
  simp only [execOp, ho, resolve, invoke, builtin, hd, hs]
  simp [builtin, hd, hs, hrun, Result.andThen, Oper.upon]
  simpa [List.append_assoc] using h
theorem step_copy_none {ops : Array Oper} {o : Oper} {a : Act} {w : World} {K : Act → World → Prop} {Q : Exit → Act → World → Prop} {E : Prop} (hgd : o.guard = none) (d s : Operand) (dT sT : TypeId)
    (ho : o.op = .call { callee := .builtin .copy, args := #[d, s], argTypes := #[dT, sT] }) (elem : TypeId) (hu : P.underlying dT = some (.slice elem)) (hsz : ((P.info? elem).map (·.size)).isSome = true)
    (dp sp : Option Addr) (dLen dCap sLen sCap : Nat) (hd : a.eval d = .slice dp dLen dCap) (hs : a.eval s = .slice sp sLen sCap) (hn : Nat.min sLen dLen = 0)
    (h : K (a.put o.dst (goInt 0)) w) : if Region.wanted o (yielded ops a.tmps) = true then Oper.wp P o a w K Q else E := by
  have hw : Region.wanted o (yielded ops a.tmps) = true := by simp [Region.wanted, hgd]
  rw [if_pos hw]
  have hrun : (Builtin.copy_ #[dT, sT] o.type #[.slice dp dLen dCap, .slice sp sLen sCap]).run P w = .ok (goInt 0) w := by
    cases hq : P.info? elem with
    | none => simp [hq] at hsz
    | some i =>
      have hl : ∀ (x : Addr), (loadCells x 0).run P w = .ok #[] w := fun x => by simpa using run_loadCells_list (P := P) w x [] (by simp)
      cases dp <;> cases sp <;> simp [Builtin.copy_, run_underlying hu, Builtin.lenOf, Builtin.firstCells, sizeOf, typeInfo, hq, hn, storeCells, hl]
  unfold Oper.wp
  simp only [execOp, ho, resolve, invoke, builtin, hd, hs]
  simp [builtin, hd, hs, hrun, Result.andThen, Oper.upon]
  simpa [List.append_assoc] using h
end
section
variable {w : World} {base g n cap k : Nat} {e : TypeId} {xs : List Value}
/-- cells laid over a row of the call's own -/
theorem own_over (h : w.ownsRow base e k (.slice (some ⟨g, 0, none⟩) n cap) n xs) (off : Nat) (cs : List Value) (hfit : off + cs.length ≤ n * k) :
    ∃ cur, w.heap[g]? = some (.cells cur e (0, 0)) ∧ off + cs.length ≤ cur.size ∧ (w.setRow g (cur.toList.take off ++ cs ++ cur.toList.drop (off + cs.length)).toArray).ownsRow base e k (.slice (some ⟨g, 0, none⟩) n cap) n (xs.take off ++ cs ++ xs.drop (off + cs.length)) := by
  obtain ⟨hl, h⟩ := h
  rcases h with ⟨h0, _⟩ | ⟨g', cap', cur, hv, hb, hg, hnc, hcm, hcs, ht⟩
  · cases h0
  · injection hv with e1 e2 e3
    injection e1 with e1
    injection e1 with e1
    subst e1 e3
    have hnk : n * k ≤ cap * k := Nat.mul_le_mul_right _ hnc
    refine ⟨cur, hg, by omega, ?_, .inr ⟨g, cap, _, rfl, hb, setRow_heap w g cur _ e _ hg, hnc, hcm, ?_, ?_⟩⟩
    · simp only [List.length_append, List.length_take, List.length_drop]; omega
    · simp only [List.size_toArray, List.length_append, List.length_take, List.length_drop, Array.length_toList]; omega
    · rw [← ht]
      have hcl : cur.toList.length = cap * k := by simpa using hcs
      generalize cur.toList = L at *
      have e1 : List.take off (List.take (n * k) L) = List.take off L := by rw [List.take_take]; congr 1; omega
      have e2 : List.drop (off + cs.length) (List.take (n * k) L) = List.take (n * k - (off + cs.length)) (List.drop (off + cs.length) L) := by rw [List.drop_take]
      rw [e1, e2]
      have l1 : (List.take off L ++ cs).length = off + cs.length := by simp; omega
      simp only
      rw [List.take_append, l1, List.take_of_length_le (by omega)]
theorem grownBy_setRow (w : World) (g : Nat) (cs : Array Value) : w.grownBy (w.setRow g cs) (some g) :=
  ⟨rfl, rfl, rfl, by simp [World.setRow], fun i _ hi => setRow_other w g i cs (fun e => hi (by rw [e]))⟩
end
theorem flat_takeK {α : Type} {enc : α → List Value} {k : Nat} (hk : ∀ x, (enc x).length = k) : ∀ (l : List α) (i : Nat), (l.flatMap enc).take (i * k) = (l.take i).flatMap enc
  | [], i => by simp
  | x :: l, 0 => by simp
  | x :: l, i + 1 => by
    have e : (i + 1) * k = (enc x).length + i * k := by rw [hk, Nat.succ_mul]; omega
    rw [List.flatMap_cons, e, List.take_length_add_append, flat_takeK hk l i]
    simp
/-- the cells behind place q laid one place further on -/
theorem step_shift {P : Program} {α : Type} {enc : α → List Value} {k : Nat} (hk : ∀ x, (enc x).length = k) (h1c : ∀ x, ∀ v ∈ enc x, v.oneCell' = true) {ops : Array Oper} {o : Oper} {a : Act} {w : World} {K : Act → World → Prop} {Q : Exit → Act → World → Prop} {E : Prop} (hgd : o.guard = none) (d s : Operand) (dT sT : TypeId)
    (ho : o.op = .call { callee := .builtin .copy, args := #[d, s], argTypes := #[dT, sT] }) (elem : TypeId) (hu : P.underlying dT = some (.slice elem)) (hsz : (P.info? elem).map (·.size) = some k)
    {base g m cap : Nat} {e : TypeId} {S : List α} {z : α} (h : w.ownsRow base e k (.slice (some ⟨g, 0, none⟩) (m + 1) cap) (m + 1) ((S ++ [z]).flatMap enc)) (hm : S.length = m) (q : Nat) (hq : q < m)
    {off soff dLen dCap sLen sCap : Nat} (hd : a.eval d = .slice (some ⟨g, off, none⟩) dLen dCap) (hs : a.eval s = .slice (some ⟨g, soff, none⟩) sLen sCap) (e1 : off = (q + 1) * k) (e2 : soff = q * k) (e3 : dLen = m - q) (e4 : m - q ≤ sLen)
    (hK : ∀ w', w'.ownsRow base e k (.slice (some ⟨g, 0, none⟩) (m + 1) cap) (m + 1) ((S.take (q + 1) ++ S.drop q).flatMap enc) → w.grownBy w' (some g) → K (a.put o.dst (goInt (Nat.min sLen dLen))) w') :
    if Region.wanted o (yielded ops a.tmps) = true then Oper.wp P o a w K Q else E := by
  subst e1 e2 e3
  have hcl : ((S.drop q).flatMap enc).length = (m - q) * k := by rw [flat_len hk, List.length_drop, hm]
  have hfit : (q + 1) * k + ((S.drop q).flatMap enc).length ≤ (m + 1) * k := by
    rw [hcl, ← Nat.add_mul]
    exact Nat.mul_le_mul_right _ (by omega)
  have hall : (q + 1) * k + ((S.drop q).flatMap enc).length = (m + 1) * k := by
    rw [hcl, ← Nat.add_mul]; congr 1; omega
  obtain ⟨cur, hcur, hfit2, hown⟩ := own_over h ((q + 1) * k) ((S.drop q).flatMap enc) hfit
  have hrow : List.take ((q + 1) * k) ((S ++ [z]).flatMap enc) ++ (S.drop q).flatMap enc ++ List.drop ((q + 1) * k + ((S.drop q).flatMap enc).length) ((S ++ [z]).flatMap enc) = (S.take (q + 1) ++ S.drop q).flatMap enc := by
    have hd0 : List.drop ((m + 1) * k) ((S ++ [z]).flatMap enc) = [] := List.drop_of_length_le (by rw [flat_len hk]; simp [hm])
    rw [hall, hd0, flat_takeK hk, List.append_nil, List.flatMap_append, List.take_append_of_le_length (by omega)]
  rw [hrow] at hown
  refine step_copy_rowk hgd d s dT sT ho elem hu hsz g ((q + 1) * k) (m - q) dCap ⟨g, q * k, none⟩ sLen sCap hd hs cur e hcur ((S.drop q).flatMap enc) (by rw [hcl]; congr 1; exact (Nat.min_eq_right e4).symm) (fun j v hj => ?_) hfit2 (fun v hv => ?_) (hK _ hown (grownBy_setRow _ _ _))
  · have hj2 := (List.getElem?_eq_some_iff.1 hj).1
    rw [hcl] at hj2
    have e0 : (S ++ [z]).flatMap enc = (S.take q).flatMap enc ++ ((S.drop q).flatMap enc ++ [z].flatMap enc) := by rw [← List.flatMap_append, ← List.flatMap_append, ← List.append_assoc, List.take_append_drop]
    have e9 : ((S.take q).flatMap enc).length = q * k := by rw [flat_len hk, List.length_take, Nat.min_eq_left (by omega)]
    have e5 : ((S ++ [z]).flatMap enc)[q * k + j]? = some v := by
      rw [e0, List.getElem?_append_right (by rw [e9]; omega), e9, Nat.add_sub_cancel_left, List.getElem?_append_left (by rw [hcl]; exact hj2)]
      exact hj
    have e7 : (⟨g, q * k, none⟩ : Addr).add j = ⟨g, q * k + j, none⟩ := by unfold Addr.add; split <;> simp_all
    rw [e7]
    have h9 := (List.getElem?_eq_some_iff.1 e5).1
    have h8 := h.cellAt (q * k + j) (by first | exact h9 | (rw [h.1] at h9; exact h9))
    rw [h8]
    exact e5
  · obtain ⟨x, _, hx⟩ := List.mem_flatMap.1 hv
    exact h1c x v hx
theorem ins_set {α : Type} {S : List α} {q : Nat} {c : α} (hq : q < S.length) : (S.take (q + 1) ++ S.drop q).set q c = S.take q ++ c :: S.drop q := by
  have e : S.take (q + 1) = S.take q ++ [S[q]] := by rw [List.take_add_one, List.getElem?_eq_getElem hq]; rfl
  rw [e, List.append_assoc, List.set_append_right _ _ (by simp; omega)]
  have e2 : q - (S.take q).length = 0 := by simp; omega
  rw [e2]
  rfl
theorem ins_end {α : Type} {S : List α} {z c : α} : (S ++ [z]).set S.length c = S.take S.length ++ c :: S.drop S.length := by
  rw [List.set_append_right _ _ (Nat.le_refl _), Nat.sub_self]
  simp
end Go.Proofs.Ytomndgjnhhchdaa

/- append onto a slice of the call's own, from a slice that reads as a list. -/
import Derived.Test.YtfoedkdmckhihaaOwn
import Derived.Maps.AppendAt
import Derived.Deep.AppendLies
import Derived.RegionTactic
import Derived.OwnWalk
namespace Go.Proofs.Ytfoedkdmckhihaa
set_option linter.unusedSimpArgs false
set_option linter.unusedVariables false
open Go.RowKit
theorem run_append_of_nil' {P : Program} (w : World) (base : Nat) (t ty e : TypeId) (i : TypeInfo) (size : Nat) (ht : P.underlying t = some (.slice e)) (hi : P.info? e = some i)
    (v : Value) (n : Nat) (xs : List Value) (hown : w.ownsRow base e size v n xs) (c : Nat) : (Builtin.append_ #[t, t] ty #[v, .slice none 0 c]).run P w = .ok v w := by
  rcases hown.2 with ⟨rfl, rfl⟩ | ⟨g, cap, cur, rfl, _, _, hnc, _⟩
  · simp [Builtin.append_, run_underlying ht, sizeOf, typeInfo, hi, Builtin.lenOf, Builtin.firstCells]
  · simp [Builtin.append_, run_underlying ht, sizeOf, typeInfo, hi, Builtin.lenOf, Builtin.firstCells, hnc, storeCells]
/-- the list x :: .. that a slice value lies over, cell by cell -/
theorem Rd.flat {α : Type} {k : Nat} {enc : α → List Value} {W : World} {A : Option Addr} {n c : Nat} {xs : List α} (hk : ∀ x, (enc x).length = k) (hk0 : 0 < k) (h : Rd k enc W (.slice A n c) xs) :
    n = xs.length ∧ (xs = [] ∨ ∃ b off, A = some ⟨b, off, none⟩ ∧ ∀ j u, (xs.flatMap enc)[j]? = some u → W.cell? ((⟨b, off, none⟩ : Addr).add j) = some u) := by
  obtain ⟨A', cap, hv, _, h⟩ := h
  injection hv with h1 h2 h3
  subst h1 h2
  refine ⟨rfl, ?_⟩
  rcases h with h | ⟨b, off, hA, hlt, hc⟩
  · exact .inl h
  · refine .inr ⟨b, off, hA, fun j u hu => ?_⟩
    have hj : j < xs.length * k := by rw [← flat_len hk]; exact (List.getElem?_eq_some_iff.1 hu).1
    have hq : j / k < xs.length := (Nat.div_lt_iff_lt_mul hk0).2 hj
    have hr : j % k < (enc xs[j / k]).length := by rw [hk]; exact Nat.mod_lt _ hk0
    have h2 := flat_get hk xs (j / k) xs[j / k] (List.getElem?_eq_getElem hq) (j % k) _ (List.getElem?_eq_getElem hr)
    have e : j / k * k + j % k = j := by rw [Nat.mul_comm]; exact Nat.div_add_mod j k
    rw [e, hu] at h2
    have h3 := hc (j / k) xs[j / k] (List.getElem?_eq_getElem hq) (j % k) u (by rw [List.getElem?_eq_getElem hr]; exact h2.symm)
    have e2 : ((⟨b, off, none⟩ : Addr).add j) = ⟨b, off + j / k * k + j % k, none⟩ := by
      unfold Addr.add; split
      · rename_i h0; subst h0; simp
      · simp only [Addr.mk.injEq, true_and, and_true]; omega
    rw [e2]; exact h3
/-- a slice whose elements are made of single cells -/
def OneC {α : Type} (enc : α → List Value) : Prop := ∀ x, ∀ u ∈ enc x, u.oneCell' = true
section
variable {P : Program} {α : Type} {enc : α → List Value} {size : Nat}
theorem own_len (hk : ∀ x, (enc x).length = size) (hk0 : 0 < size) {w : World} {base : Nat} {e : TypeId} {v : Value} {n : Nat} {xs : List α} (h : w.ownsRow base e size v n (xs.flatMap enc)) : n = xs.length := by
  have := h.1
  rw [flat_len hk] at this
  exact (Nat.eq_of_mul_eq_mul_right hk0 this).symm
theorem run_app (w : World) (hk : ∀ x, (enc x).length = size) (hk0 : 0 < size) (h1 : OneC enc) (base : Nat) (t ty e : TypeId) (z : Value) (bytes : Nat)
    (hinfo : (P.info? e).map (fun i => (i.zero, i.size, i.bytes)) = some (some z, size, bytes)) (hzs : z.cells.size = size) (ht : P.underlying t = some (.slice e))
    (v : Value) (n : Nat) (xs ys : List α) (hown : w.ownsRow base e size v n (xs.flatMap enc)) (A : Option Addr) (m c : Nat) (hr : Rd size enc w (.slice A m c) ys)
    (hmax : n + m ≤ 1099511627776) (hbytes : bytes ≤ 128) (hbase : base ≤ w.heap.size) :
    ∃ v' w', (Builtin.append_ #[t, t] ty #[v, .slice A m c]).run P w = .ok v' w' ∧ w'.ownsRow base e size v' (xs ++ ys).length ((xs ++ ys).flatMap enc) ∧ w.grownBy w' v.ownBlock ∧ Below base w w' ∧
      (v'.ownBlock = v.ownBlock ∨ v'.ownBlock = some w.heap.size) := by
  obtain rfl : n = xs.length := own_len hk hk0 hown
  obtain ⟨i0, hi, hz0, hz1, hz2⟩ := info_parts hinfo
  obtain ⟨hm, hr2⟩ := hr.flat hk hk0
  subst hm
  have hlt : ∀ k, v.ownBlock = some k → base ≤ k := fun k hk => (hown.lt k hk).1
  have hmul : (xs.length + ys.length) * bytes ≤ 140737488355328 := Nat.le_trans (Nat.mul_le_mul hmax hbytes) (by decide)
  have key : ∀ (b off : Nat), A = some ⟨b, off, none⟩ → (∀ j u, (ys.flatMap enc)[j]? = some u → w.cell? ((⟨b, off, none⟩ : Addr).add j) = some u) →
      ∃ v' w', (Builtin.append_ #[t, t] ty #[v, .slice A ys.length c]).run P w = .ok v' w' ∧ w'.ownsRow base e size v' (xs ++ ys).length ((xs ++ ys).flatMap enc) ∧ w.grownBy w' v.ownBlock ∧ Below base w w' ∧
      (v'.ownBlock = v.ownBlock ∨ v'.ownBlock = some w.heap.size) := by
    intro b off hA hc
    subst hA
    obtain ⟨v', w', hrun, h2, h3, _, h5⟩ := run_append_own_at (P := P) w base t ty e i0 z size bytes ht hi hz0 hz1 hz2 hzs hk0 v xs.length _ hown ⟨b, off, none⟩ ys.length c (ys.flatMap enc) (flat_len hk ys) hc (fun u hu => by
      obtain ⟨x, _, hx⟩ := List.mem_flatMap.1 hu
      exact h1 x u hx) (by unfold maxLen; omega) hmul hbase
    exact ⟨v', w', hrun, by rw [List.length_append, List.flatMap_append]; exact h2, h3, (Below.refl _ _).grown h3 hbase hlt, h5⟩
  clear hr
  rcases hr2 with rfl | ⟨b, off, hA, hc⟩
  · rcases A with _ | ⟨b, off, s⟩
    · exact ⟨v, w, run_append_of_nil' w base t ty e i0 size ht hi v _ _ hown c, by simpa using hown, World.grownBy.refl w _, Below.refl _ _, .inl rfl⟩
    · obtain ⟨v', w', hrun, h2, h3, _, h5⟩ := run_append_own_at (P := P) w base t ty e i0 z size bytes ht hi hz0 hz1 hz2 hzs hk0 v xs.length _ hown ⟨b, off, s⟩ 0 c [] (by simp) (by simp) (by simp) (by unfold maxLen; omega) (by simpa using hmul) hbase
      exact ⟨v', w', hrun, by simpa using h2, h3, (Below.refl _ _).grown h3 hbase hlt, h5⟩
  · exact key b off hA hc
theorem wp_app (w : World) {o : Oper} {a : Act} {K : Act → World → Prop} {Q : Exit → Act → World → Prop} (s x : Operand) (t : TypeId)
    (ho : o.op = .call { callee := .builtin .append, args := #[s, x], argTypes := #[t, t] })
    (hk : ∀ x, (enc x).length = size) (hk0 : 0 < size) (h1 : OneC enc) (base : Nat) (e : TypeId) (z : Value) (bytes : Nat)
    (hinfo : (P.info? e).map (fun i => (i.zero, i.size, i.bytes)) = some (some z, size, bytes)) (hzs : z.cells.size = size) (ht : P.underlying t = some (.slice e))
    (v : Value) (n : Nat) (xs ys : List α) (hs : a.eval s = v) (hown : w.ownsRow base e size v n (xs.flatMap enc)) (A : Option Addr) (m c : Nat) (hx : a.eval x = .slice A m c) (hr : Rd size enc w (.slice A m c) ys)
    (hmax : n + m ≤ 1099511627776) (hbytes : bytes ≤ 128) (hbase : base ≤ w.heap.size)
    (h : ∀ v' w', w'.ownsRow base e size v' (xs ++ ys).length ((xs ++ ys).flatMap enc) → w.grownBy w' v.ownBlock → Below base w w' → (v'.ownBlock = v.ownBlock ∨ v'.ownBlock = some w.heap.size) → K (a.put o.dst v') w') : o.wp P a w K Q := by
  obtain ⟨v', w', hrun, h2, h3, h4, h5⟩ := run_app (P := P) w hk hk0 h1 base t o.type e z bytes hinfo hzs ht v n xs ys hown A m c hr hmax hbytes hbase
  unfold Oper.wp execOp
  simp only [ho, resolve, invoke, builtin, Sem.run_bind, Sem.run_pure, Result.andThen_ok, List.map_toArray, List.map_cons, List.map_nil, hs, hx, hrun]
  exact h v' w' h2 h3 h4 h5
theorem wpList_app (w : World) {ops : Array Oper} {rest : List Oper} {o : Oper} {a : Act} {Q : Exit → Act → World → Prop} (hgd : o.guard = none) (s x : Operand) (t : TypeId)
    (ho : o.op = .call { callee := .builtin .append, args := #[s, x], argTypes := #[t, t] })
    (hk : ∀ x, (enc x).length = size) (hk0 : 0 < size) (h1 : OneC enc) (base : Nat) (e : TypeId) (z : Value) (bytes : Nat)
    (hinfo : (P.info? e).map (fun i => (i.zero, i.size, i.bytes)) = some (some z, size, bytes)) (hzs : z.cells.size = size) (ht : P.underlying t = some (.slice e))
    (v : Value) (n : Nat) (xs ys : List α) (hs : a.eval s = v) (hown : w.ownsRow base e size v n (xs.flatMap enc)) (A : Option Addr) (m c : Nat) (hx : a.eval x = .slice A m c) (hr : Rd size enc w (.slice A m c) ys)
    (hmax : n + m ≤ 1099511627776) (hbytes : bytes ≤ 128) (hbase : base ≤ w.heap.size)
    (h : ∀ v' w', w'.ownsRow base e size v' (xs ++ ys).length ((xs ++ ys).flatMap enc) → w.grownBy w' v.ownBlock → Below base w w' → (v'.ownBlock = v.ownBlock ∨ v'.ownBlock = some w.heap.size) → wpList P ops Q rest (a.put o.dst v') w') : wpList P ops Q (o :: rest) a w :=
  wpList_plain hgd fun _ hK => wp_app w s x t ho hk hk0 h1 base e z bytes hinfo hzs ht v n xs ys hs hown A m c hx hr hmax hbytes hbase fun v' w' h2 h3 h4 h5 => hK _ _ (h v' w' h2 h3 h4 h5)
/-- append as one step of a region that draws -/
theorem step_app (w : World) {ops : Array Oper} {o : Oper} {a : Act} {K : Act → World → Prop} {Q : Exit → Act → World → Prop} {E : Prop} (hgd : o.guard = none) (s x : Operand) (t : TypeId)
    (ho : o.op = .call { callee := .builtin .append, args := #[s, x], argTypes := #[t, t] })
    (hk : ∀ x, (enc x).length = size) (hk0 : 0 < size) (h1 : OneC enc) (base : Nat) (e : TypeId) (z : Value) (bytes : Nat)
    (hinfo : (P.info? e).map (fun i => (i.zero, i.size, i.bytes)) = some (some z, size, bytes)) (hzs : z.cells.size = size) (ht : P.underlying t = some (.slice e))
    (v : Value) (n : Nat) (xs ys : List α) (hs : a.eval s = v) (hown : w.ownsRow base e size v n (xs.flatMap enc)) (A : Option Addr) (m c : Nat) (hx : a.eval x = .slice A m c) (hr : Rd size enc w (.slice A m c) ys)
    (hmax : n + m ≤ 1099511627776) (hbytes : bytes ≤ 128) (hbase : base ≤ w.heap.size)
    (h : ∀ v' w', w'.ownsRow base e size v' (xs ++ ys).length ((xs ++ ys).flatMap enc) → w.grownBy w' v.ownBlock → Below base w w' → (v'.ownBlock = v.ownBlock ∨ v'.ownBlock = some w.heap.size) → K (a.put o.dst v') w') : if Region.wanted o (yielded ops a.tmps) = true then Oper.wp P o a w K Q else E := by
  have hw : Region.wanted o (yielded ops a.tmps) = true := by simp [Region.wanted, hgd]
  rw [if_pos hw]
  exact wp_app w s x t ho hk hk0 h1 base e z bytes hinfo hzs ht v n xs ys hs hown A m c hx hr hmax hbytes hbase h
/-- a new block reads as a list -/
theorem own_made (w : World) (hk : ∀ x, (enc x).length = size) (base : Nat) (e : TypeId) (xs : List α) (cs : Array Value) (hc : cs = (xs.flatMap enc).toArray) (hb : base ≤ w.heap.size) (hm : xs.length ≤ maxLen) :
    (w.alloc (.cells cs e)).ownsRow base e size (.slice (some ⟨w.heap.size, 0, none⟩) xs.length xs.length) xs.length (xs.flatMap enc) :=
  ⟨flat_len hk xs, .inr ⟨w.heap.size, xs.length, cs, rfl, hb, heap_alloc_new w _, Nat.le_refl _, hm, by rw [hc]; simp [flat_len hk], by rw [hc, ← flat_len hk xs]; exact List.take_length⟩⟩
theorem rd_made (w : World) (hk : ∀ x, (enc x).length = size) (e : TypeId) (xs : List α) (cs : Array Value) (hc : cs = (xs.flatMap enc).toArray) (hm : xs.length ≤ maxLen) :
    Rd size enc (w.alloc (.cells cs e)) (.slice (some ⟨w.heap.size, 0, none⟩) xs.length xs.length) xs := Rd.own hk (own_made w hk 0 e xs cs hc (Nat.zero_le _) hm)
/-- the one element that append puts behind the others -/
theorem rd_one (w : World) (hk : ∀ x, (enc x).length = size) (e : TypeId) (x : α) (cs : Array Value) (hc : cs = (enc x).toArray) {b : Nat} (hb : b = w.heap.size := by simp) :
    Rd size enc (w.alloc (.cells cs e)) (.slice (some ⟨b, 0, none⟩) 1 1) [x] := by subst hb; exact rd_made w hk e [x] cs (by simpa using hc) (by unfold maxLen; simp)
/-- a list that is written out -/
theorem rd_lit (w : World) (hk : ∀ x, (enc x).length = size) (e : TypeId) (xs : List α) {cs : Array Value} {b n : Nat} (hc : cs = (xs.flatMap enc).toArray := by with_unfolding_all rfl) (hm : xs.length ≤ maxLen := by with_unfolding_all decide) (hb : b = w.heap.size := by simp) (hn : n = xs.length := by with_unfolding_all rfl) :
    Rd size enc (w.alloc (.cells cs e)) (.slice (some ⟨b, 0, none⟩) n n) xs := by subst hb hn; exact rd_made w hk e xs cs hc hm
theorem Rd.own' (hk : ∀ x, (enc x).length = size) (hk0 : 0 < size) {w : World} {base : Nat} {e : TypeId} {v : Value} {n : Nat} {xs : List α} (h : w.ownsRow base e size v n (xs.flatMap enc)) : Rd size enc w v xs := by
  have := own_len hk hk0 h
  subst this
  exact Rd.own hk h
theorem own_some {w : World} {base g n cap : Nat} {e : TypeId} {cs : List Value} (h : w.ownsRow base e size (.slice (some ⟨g, 0, none⟩) n cap) n cs) (j : Nat) (hj : j < n * size) : ∃ u, w.cell? ⟨g, j, none⟩ = some u :=
  ⟨_, (h.cellAt j (by first | exact hj | (rw [h.1]; exact hj))).trans (List.getElem?_eq_getElem (by rw [h.1]; exact hj))⟩
theorem own_base {w : World} {base base' : Nat} {e : TypeId} {v : Value} {n : Nat} {cs : List Value} (h : w.ownsRow base e size v n cs) (hb : base' ≤ base) : w.ownsRow base' e size v n cs :=
  ⟨h.1, h.2.imp id fun ⟨g, cap, cur, e1, e2, r⟩ => ⟨g, cap, cur, e1, Nat.le_trans hb e2, r⟩⟩
end
theorem flat_rep {α : Type} {enc : α → List Value} {size : Nat} (hk : ∀ x, (enc x).length = size) (hk0 : 0 < size) (z : Value) (x0 : α) (hz : z.cells.toList = enc x0) (n : Nat) : (madeCells z.cells (n * size)).toList = (List.replicate n x0).flatMap enc := by
  have hs : z.cells.size = size := by rw [← Array.length_toList, hz, hk]
  apply List.ext_getElem?
  intro j
  by_cases hj : j < n * size
  · have hq : j / size < n := (Nat.div_lt_iff_lt_mul hk0).2 hj
    have hr : j % size < (enc x0).length := by rw [hk]; exact Nat.mod_lt _ hk0
    have h2 := flat_get hk (List.replicate n x0) (j / size) x0 (by simp [hq]) (j % size) _ (List.getElem?_eq_getElem hr)
    have e : j / size * size + j % size = j := by rw [Nat.mul_comm]; exact Nat.div_add_mod j size
    rw [e] at h2
    have hr2 : j % z.cells.size < z.cells.size := by rw [hs]; exact Nat.mod_lt _ hk0
    have h3 : z.cells[j % z.cells.size]? = (enc x0)[j % size]? := by rw [← hz, Array.getElem?_toList, hs]
    rw [h2, Array.getElem?_toList]
    simp [madeCells, hj]
    have h4 := h3
    rw [List.getElem?_eq_getElem hr] at h4
    obtain ⟨hx, hx2⟩ := Array.getElem?_eq_some_iff.1 h4
    first
      | exact hx2
      | (rw [getElem!_pos _ _ hx]; exact hx2)
      | (rw [Array.getD, dif_pos hx]; exact hx2)
      | (rw [getElem!_def, h4])
  · rw [List.getElem?_eq_none (by simp [madeCells]; omega), List.getElem?_eq_none (by rw [flat_len hk]; simp; omega)]
theorem wpList_mk {P : Program} {α : Type} {enc : α → List Value} {size : Nat} (w : World) {ops : Array Oper} {rest : List Oper} {o : Oper} {a : Act} {Q : Exit → Act → World → Prop}
    (hg : o.guard = none) (l c : Operand) (t : TypeId) (hop : o.op = Op.makeSlice t l c) (hk : ∀ x, (enc x).length = size) (hk0 : 0 < size) (x0 : α)
    (base : Nat) (e : TypeId) (z : Value) (bytes : Nat) (hz : z.cells.toList = enc x0) (hinfo : (P.info? e).map (fun i => (i.zero, i.size, i.bytes)) = some (some z, size, bytes)) (h1 : P.underlying t = some (.slice e))
    (kl kc : IntKind) (L C : Int) (n : Nat) (hl : a.eval l = .int kl L) (hc : a.eval c = .int kc C) (hL : L = (n : Int)) (hC : C = (n : Int)) (hn : n ≤ 1099511627776) (hb : bytes ≤ 128) (b4 : base ≤ w.heap.size)
    (hK : ∀ w', w'.ownsRow base e size (.slice (some ⟨w.heap.size, 0, none⟩) n n) n ((List.replicate n x0).flatMap enc) → Below w.heap.size w w' → w.heap.size < w'.heap.size → wpList P ops Q rest (a.put o.dst (.slice (some ⟨w.heap.size, 0, none⟩) n n)) w') :
    wpList P ops Q (o :: rest) a w := by
  obtain ⟨i0, hi, hz0, hz1, hz2⟩ := info_parts hinfo
  refine wpList_make_full w hg l c t hop base e i0 z size h1 hi hz0 hz1 kl kc L C n hl hc hL hC (by rw [hz2]; exact Nat.le_trans (Nat.mul_le_mul hb hn) (by decide)) (by unfold maxLen; omega) b4 fun w' h2 h3 => ?_
  rw [flat_rep hk hk0 z x0 hz] at h2
  exact hK w' h2 ((Below.refl _ w).grown h3 (Nat.le_refl _) (fun k e => by cases e)) (h2.lt _ rfl).2
theorem flat_set {α : Type} {enc : α → List Value} {a b : Value} {y : α} (hk : ∀ x, (enc x).length = 2) (hy : enc y = [a, b]) : ∀ (xs : List α) (i : Nat), i < xs.length → ((xs.flatMap enc).set (i * 2) a).set (i * 2 + 1) b = (xs.set i y).flatMap enc
  | [], i, h => by simp at h
  | x :: xs, 0, _ => by
    have h1 := hk x
    match hx : enc x, h1 with
    | [c, d], _ => simp [hx, hy]
  | x :: xs, i + 1, h => by
    have h1 := hk x
    match hx : enc x, h1 with
    | [c, d], _ =>
      have := flat_set hk hy xs i (by simpa using h)
      rw [show (i + 1) * 2 = i * 2 + 1 + 1 by omega]
      simp only [List.flatMap_cons, hx, List.cons_append, List.nil_append, List.set_cons_succ]
      rw [this]
theorem flat_set1 {α : Type} {enc : α → List Value} {a : Value} {y : α} (hk : ∀ x, (enc x).length = 1) (hy : enc y = [a]) : ∀ (xs : List α) (i : Nat), i < xs.length → (xs.flatMap enc).set i a = (xs.set i y).flatMap enc
  | [], i, h => by simp at h
  | x :: xs, 0, _ => by
    have h1 := hk x
    match hx : enc x, h1 with
    | [c], _ => simp [hx, hy]
  | x :: xs, i + 1, h => by
    have h1 := hk x
    match hx : enc x, h1 with
    | [c], _ =>
      have := flat_set1 hk hy xs i (by simpa using h)
      simp only [List.flatMap_cons, hx, List.cons_append, List.nil_append, List.set_cons_succ]
      rw [this]
/-- a store of an element of two cells into a slice of the call's own -/
theorem own_set {α : Type} {enc : α → List Value} {w : World} {base g n cap : Nat} {e : TypeId} {xs : List α} {a b : Value} {y : α} (hk : ∀ x, (enc x).length = 2) (hy : enc y = [a, b])
    (h : w.ownsRow base e 2 (.slice (some ⟨g, 0, none⟩) n cap) n (xs.flatMap enc)) (i : Nat) (hi : i < n) :
    ((w.setCell ⟨g, i * 2, none⟩ a).setCell ⟨g, i * 2 + 1, none⟩ b).ownsRow base e 2 (.slice (some ⟨g, 0, none⟩) n cap) n ((xs.set i y).flatMap enc) := by
  have hn := own_len hk (by decide) h
  have := ((h.stored (i * 2) a).1.stored (i * 2 + 1) b).1
  rwa [flat_set hk hy xs i (by omega)] at this
theorem own_set1 {α : Type} {enc : α → List Value} {w : World} {base g n cap : Nat} {e : TypeId} {xs : List α} {a : Value} {y : α} (hk : ∀ x, (enc x).length = 1) (hy : enc y = [a])
    (h : w.ownsRow base e 1 (.slice (some ⟨g, 0, none⟩) n cap) n (xs.flatMap enc)) (i : Nat) (hi : i < n) :
    (w.setCell ⟨g, i, none⟩ a).ownsRow base e 1 (.slice (some ⟨g, 0, none⟩) n cap) n ((xs.set i y).flatMap enc) := by
  have hn := own_len hk (by decide) h
  have := (h.stored i a).1
  rwa [flat_set1 hk hy xs i (by omega)] at this
/-- a list that is filled from its head on -/
def upd {α β : Type} (f : α → β) (x0 : β) (l : List α) (k : Nat) : List β := (l.take k).map f ++ List.replicate (l.length - k) x0
theorem upd_zero {α β : Type} (f : α → β) (x0 : β) (l : List α) : upd f x0 l 0 = List.replicate l.length x0 := by simp [upd]
theorem upd_all {α β : Type} (f : α → β) (x0 : β) (l : List α) : upd f x0 l l.length = l.map f := by simp [upd]
theorem upd_len {α β : Type} (f : α → β) (x0 : β) (l : List α) (k : Nat) (hk : k ≤ l.length) : (upd f x0 l k).length = l.length := by simp [upd]; omega
theorem upd_succ {α β : Type} {f : α → β} {x0 : β} {l : List α} {k : Nat} {r : α} (h : l[k]? = some r) : upd f x0 l (k + 1) = (upd f x0 l k).set k (f r) := by
  have hk : k < l.length := (List.getElem?_eq_some_iff.1 h).1
  unfold upd
  rw [List.take_add_one, h]
  have e : l.length - k = l.length - (k + 1) + 1 := by omega
  rw [e, List.replicate_succ, List.set_append_right _ _ (by simp; omega)]
  have e2 : k - min k l.length = 0 := by omega
  simp [e2]
/-- equality of two pairs of numbers, as Go computes it -/
def eqp (p q : Int × Int) : Bool := p.1 == q.1 && p.2 == q.2
theorem eqp_iff (p q : Int × Int) : eqp p q = true ↔ p = q := by simp [eqp, Prod.ext_iff]
theorem eqp_no (p q : Int × Int) : eqp p q = false ↔ p ≠ q := by rw [← Bool.not_eq_true, eqp_iff]
theorem take_eq_succ {α : Type} {a b : List α} {k : Nat} {x y : α} (ha : a[k]? = some x) (hb : b[k]? = some y) (h : a.take k = b.take k) (e : x = y) : a.take (k + 1) = b.take (k + 1) := by
  rw [List.take_add_one, List.take_add_one, ha, hb, h, e]
theorem oneI : OneC encI := fun x u hu => by simp [encI] at hu; subst hu; rfl
end Go.Proofs.Ytfoedkdmckhihaa

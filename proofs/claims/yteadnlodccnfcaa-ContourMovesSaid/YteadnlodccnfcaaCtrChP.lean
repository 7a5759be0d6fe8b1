/- Chain's last loops: plain laws and memory. -/
import Derived.Test.YteadnlodccnfcaaCtrPoolO
import Derived.Test.YteadnlodccnfcaaCtrCont
namespace Go.Proofs.Yteadnlodccnfcaa
set_option linter.unusedSimpArgs false
set_option linter.unusedVariables false
set_option maxRecDepth 100000
open Go Go.Maps Go.RowKit Planar
abbrev OwnPols (base : Nat) (W : World) (v : Value) (l : List (List Pt)) : Prop := OwnN base 42 1 encPol psl ptag 2 encPt (fun o : List Pt => o) W v l
structure PhP (S2 : List Pt) (R0 Rk : List Sg) (k : Nat) (dn : List (List Pt)) : Prop where
  sub : Rk.Sublist R0
  chain : dn ++ chainP Rk = chainP R0
  fresh : ∀ s ∈ Rk, s.1 ∉ S2.take k
  len : dn.length + Rk.length ≤ R0.length
theorem PhP.start (S2 : List Pt) (R0 : List Sg) : PhP S2 R0 R0 0 [] := ⟨List.Sublist.refl _, rfl, fun s _ => by simp, by simp⟩
theorem PhP.step {S2 : List Pt} {R0 Rk : List Sg} {k : Nat} {dn : List (List Pt)} {p b : Pt} {t : List Pt} (h : PhP S2 R0 Rk k dn) (he : ends Rk p = b :: t) (hp : S2[k]? = some p) (hS : SrtX S2) (hR : SrtS R0) (hm : ∀ s ∈ R0, s.1 ∈ S2) : PhP S2 R0 (walkP Rk p p).2 k (dn ++ [(walkP Rk p p).1]) := by
  have hsub := walk_sub Rk p p
  have hlt := walk_lt (f := p) he
  refine ⟨hsub.trans h.sub, ?_, fun s hs => h.fresh s (hsub.subset hs), by rw [List.length_append, List.length_singleton]; have := h.len; omega⟩
  rw [List.append_assoc, List.singleton_append, ← chain_at (hR.sublist h.sub) he, h.chain]
  intro s hs hlt
  have h1 := hm s (h.sub.subset hs)
  have h2 := h.fresh s hs
  obtain ⟨j, hj⟩ := List.mem_iff_getElem?.1 h1
  have hjk : ¬ j < k := fun hjk => h2 (List.mem_of_getElem? (by rw [List.getElem?_take_of_lt hjk]; exact hj))
  by_cases e : j = k
  · subst e; rw [hj] at hp; injection hp with hp; subst hp; exact ltX_irr _ hlt
  · obtain ⟨q1, e1⟩ := List.getElem?_eq_some_iff.1 hp
    obtain ⟨q2, e2⟩ := List.getElem?_eq_some_iff.1 hj
    have := List.pairwise_iff_getElem.1 hS k j q1 q2 (by omega)
    rw [e1, e2] at this
    exact this hlt
theorem PhP.next {S2 : List Pt} {R0 Rk : List Sg} {k : Nat} {dn : List (List Pt)} {p : Pt} (h : PhP S2 R0 Rk k dn) (he : ends Rk p = []) (hp : S2[k]? = some p) : PhP S2 R0 Rk (k + 1) dn := by
  refine ⟨h.sub, h.chain, fun s hs => ?_, h.len⟩
  rw [List.take_add_one, hp]
  intro hm
  rcases List.mem_append.1 hm with hm | hm
  · exact h.fresh s hs hm
  · simp at hm; exact ends_nil.1 he s hs hm
theorem PhP.fin {S2 : List Pt} {R0 Rk : List Sg} {dn : List (List Pt)} (h : PhP S2 R0 Rk S2.length dn) (hm : ∀ s ∈ R0, s.1 ∈ S2) : dn = chainP R0 := by
  have hR : Rk = [] := List.eq_nil_iff_forall_not_mem.2 fun s hs => h.fresh s hs (by rw [List.take_length]; exact hm s (h.sub.subset hs))
  have := h.chain
  rw [hR, chain_nil, List.append_nil] at this
  exact this
structure MemI (W3 wr : World) (b : Nat) (u : Value) (Rk : List Sg) (dn : List (List Pt)) : Prop where
  own : OwnPols W3.heap.size wr u dn
  pool : PoolR W3.heap.size wr b Rk.length Rk
  grown : W3.grownBy wr (some b)
theorem MemI.below {W3 wr w' : World} {b : Nat} {u : Value} {Rk : List Sg} {dn : List (List Pt)} (h : MemI W3 wr b u Rk dn) (hb : Below wr.heap.size wr w') : MemI W3 w' b u Rk dn :=
  ⟨h.own.below hb, h.pool.below hb, grownBy_then h.grown (hb.mono h.grown.size)⟩
/-- behind a contour: what lay in memory, and the new row -/
theorem MemI.more {W3 w4 w5 : World} {b : Nat} {u : Value} {Rk : List Sg} {dn : List (List Pt)} (h : MemI W3 w4 b u Rk dn) (hg : w4.grownBy w5 (some b)) {A : Option Addr} {n c : Nat} {o : List Pt} (ho : w5.ownsRow w4.heap.size 36 2 (.slice A n c) o.length (o.flatMap encPt)) :
    ∃ hs : List PolH, w5.ownsRow W3.heap.size 42 1 u hs.length (hs.flatMap encPol) ∧ hs.length = dn.length ∧ NestAt psl ptag 2 encPt (fun o : List Pt => o) w5 hs dn ∧ (∀ (i : Nat) (h : PolH) (x : List Pt), hs[i]? = some h → dn[i]? = some x → x = [] ∨ (psl h).ownBlock ≠ u.ownBlock) ∧ Rd 2 encPt w5 (psl (A, n, c)) o ∧ (o = [] ∨ (psl (A, n, c)).ownBlock ≠ u.ownBlock) := by
  obtain ⟨hs, h1, h2, h3⟩ := h.own
  have hx := h.pool.own h1
  refine ⟨hs, own_grownBy h1 hg hx, h2.1, ⟨h2.1, fun i q x hq hx => ⟨(h2.2 i q x hq hx).1, Rd.grown (h2.2 i q x hq hx).2 hg (h.pool.rd (h2.2 i q x hq hx).2)⟩⟩, h3, Rd.own encPt_len ho, ?_⟩
  rcases ho.2 with ⟨_, h0⟩ | ⟨g, cap, cur, e, hlow, _⟩
  · exact .inl (List.eq_nil_of_length_eq_zero h0)
  · right
    unfold psl
    simp only
    rw [e]
    intro e2
    have := (h1.lt g e2.symm).2
    omega
/-- behind the append of a contour to the contours -/
theorem MemI.push {W3 w4 w5 w6 w7 : World} {b : Nat} {u v' : Value} {Rk R' : List Sg} {dn : List (List Pt)} (h : MemI W3 w4 b u Rk dn) (hg : w4.grownBy w5 (some b)) (hp5 : PoolR W3.heap.size w5 b R'.length R') {A : Option Addr} {n c : Nat} {o : List Pt} {hs : List PolH}
    (h1 : w5.ownsRow W3.heap.size 42 1 u hs.length (hs.flatMap encPol)) (hn : NestAt psl ptag 2 encPt (fun o : List Pt => o) w5 hs dn) (hap : ∀ (i : Nat) (h : PolH) (x : List Pt), hs[i]? = some h → dn[i]? = some x → x = [] ∨ (psl h).ownBlock ≠ u.ownBlock) (hr : Rd 2 encPt w5 (psl (A, n, c)) o) (hx : o = [] ∨ (psl (A, n, c)).ownBlock ≠ u.ownBlock)
    (h56 : Below w5.heap.size w5 w6) (hown : w7.ownsRow W3.heap.size 42 1 v' (hs ++ [((A, n, c) : PolH)]).length ((hs ++ [((A, n, c) : PolH)]).flatMap encPol)) (hg7 : w6.grownBy w7 u.ownBlock) (hat : v'.ownBlock = u.ownBlock ∨ v'.ownBlock = some w6.heap.size) : MemI W3 w7 b v' R' (dn ++ [o]) := by
  have h6 := own_below h1 h56
  have hlow := fun k e => (h1.lt k e).1
  refine ⟨OwnN.snoc (hn.below h56) hap hown hg7 hat trivial (Rd.below hr h56) hx, (hp5.below h56).row hg7 hlow (hp5.own h1), grownBy_row (grownBy_then (grownBy_trans h.grown hg) (h56.mono (grownBy_trans h.grown hg).size)) hg7 hlow⟩
theorem MemI.low {W3 wr : World} {b B : Nat} {u : Value} {Rk : List Sg} {dn : List (List Pt)} (h : MemI W3 wr b u Rk dn) (hB : B ≤ W3.heap.size) : OwnPols B wr u dn := by
  obtain ⟨hs, h1, h2, h3⟩ := h.own
  exact ⟨hs, own_base h1 hB, h2, h3⟩
def lenS (v : Value) : Nat := match v with | .slice _ n _ => n | _ => 0
theorem lenS_own {w : World} {base : Nat} {e : TypeId} {size n : Nat} {v : Value} {xs : List Value} (h : w.ownsRow base e size v n xs) : lenS v = n := by
  obtain ⟨A, cap, rfl⟩ := own_slc h; rfl
theorem lenS_mem {W3 wr : World} {b : Nat} {u : Value} {Rk : List Sg} {dn : List (List Pt)} (h : MemI W3 wr b u Rk dn) : lenS u = dn.length := by
  obtain ⟨hs, h1, h2, h3⟩ := h.own
  rw [lenS_own h1]; exact h2.1
end Go.Proofs.Yteadnlodccnfcaa

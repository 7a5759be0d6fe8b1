/- Chain of the chapter: what lies in memory, and plain laws of its loops. -/
import Derived.Test.YteadnlodccnfcaaCtrChT
namespace Go.Proofs.Yteadnlodccnfcaa
set_option linter.unusedSimpArgs false
set_option linter.unusedVariables false
set_option maxRecDepth 100000
open Go.RowKit Planar
abbrev OwnB (base : Nat) (w : World) (gd n : Nat) (dn : List Bool) : Prop := w.ownsRow base 4 1 (.slice (some ⟨gd, 0, none⟩) n n) n (dn.flatMap encB)
/-- y0: the world behind 'make done'; the polygons s, the points v2 of the next one -/
def Thr (D : Nat) (y0 w : World) (gd n : Nat) (dn : List Bool) (s : Value) (xs : List (List Pt)) (v2 : Value) (acc : List Pt) : Prop :=
  OwnB D w gd n dn ∧ gd < y0.heap.size ∧ D ≤ gd ∧ y0.grownBy w (some gd) ∧ ∃ hs : List PolH, w.ownsRow y0.heap.size 42 1 s hs.length (hs.flatMap encPol) ∧ NestAt psl ptag 2 encPt (fun o : List Pt => o) w hs xs ∧ ApartP hs xs s ∧ ApartP hs xs v2 ∧
    (∀ (i : Nat) (h : PolH) (x : List Pt), hs[i]? = some h → xs[i]? = some x → x = [] ∨ (psl h).ownBlock ≠ some gd) ∧ w.ownsRow y0.heap.size 36 2 v2 acc.length (acc.flatMap encPt)
section
variable {D : Nat} {y0 w w' : World} {gd n : Nat} {dn : List Bool} {s s' : Value} {xs : List (List Pt)} {v2 v2' : Value} {acc acc' : List Pt}
theorem Thr.start (h : OwnB D y0 gd n dn) (hD : D ≤ gd) : Thr D y0 y0 gd n dn (.slice none 0 0) [] (.slice none 0 0) [] :=
  ⟨h, (h.lt gd rfl).2, hD, ⟨rfl, rfl, rfl, Nat.le_refl _, fun _ _ _ => rfl⟩, [], World.ownsRow_nil _ _ _ _, ⟨rfl, fun i h x hh => by simp at hh⟩, fun i h x hh => by simp at hh, fun i h x hh => by simp at hh, fun i h x hh => by simp at hh, World.ownsRow_nil _ _ _ _⟩
theorem Thr.below (h : Thr D y0 w gd n dn s xs v2 acc) (hb : Below w.heap.size w w') : Thr D y0 w' gd n dn s xs v2 acc := by
  obtain ⟨a1, a2, a3, a4, hs, h1, h2, h3, h4, h5, h6⟩ := h
  exact ⟨own_below a1 hb, a2, a3, grownBy_then a4 (hb.mono a4.size), hs, own_below h1 hb, h2.below hb, h3, h4, h5, own_below h6 hb⟩
/-- the next polygon has no points yet -/
theorem Thr.fresh (h : Thr D y0 w gd n dn s xs v2 acc) : Thr D y0 w gd n dn s xs (.slice none 0 0) [] := by
  obtain ⟨a1, a2, a3, a4, hs, h1, h2, h3, h4, h5, h6⟩ := h
  refine ⟨a1, a2, a3, a4, hs, h1, h2, h3, fun i q x hq hx => ?_, h5, World.ownsRow_nil _ _ _ _⟩
  rcases (h2.2 i q x hq hx).2.blk_lt with h0 | ⟨b, hb, _⟩
  · exact .inl h0
  · right; rw [hb]; intro e; cases e
/-- another point -/
theorem Thr.grow (h : Thr D y0 w gd n dn s xs v2 acc) (hown : w'.ownsRow y0.heap.size 36 2 v2' acc'.length (acc'.flatMap encPt)) (hg : w.grownBy w' v2.ownBlock) (hat : v2'.ownBlock = v2.ownBlock ∨ v2'.ownBlock = some w.heap.size) : Thr D y0 w' gd n dn s xs v2' acc' := by
  obtain ⟨a1, a2, a3, a4, hs, h1, h2, h3, h4, h5, h6⟩ := h
  refine ⟨a1.kept hg (own_two_ne a1 h6 (by decide)), a2, a3, grownBy_row a4 hg (fun k e => (h6.lt k e).1), hs, h1.kept hg (own_two_ne h1 h6 (by decide)), ⟨h2.1, fun i q x q1 q2 => ⟨trivial, (h2.2 i q x q1 q2).2.grown hg (h4 i q x q1 q2)⟩⟩, h3, fun i q x q1 q2 => ?_, h5, hown⟩
  rcases h4 i q x q1 q2 with hx | hx
  · exact .inl hx
  rcases (h2.2 i q x q1 q2).2.blk_lt with h0 | ⟨b, hb, hlt⟩
  · exact .inl h0
  · right
    rcases hat with e | e
    · rw [e]; exact hx
    · rw [e, hb]; intro e; injection e with e; omega
/-- a segment is done -/
theorem Thr.mark (h : Thr D y0 w gd n dn s xs v2 acc) {i : Nat} (hi : i < n) : Thr D y0 (w.setCell ⟨gd, i, none⟩ (.bool true)) gd n (dn.set i true) s xs v2 acc := by
  obtain ⟨a1, a2, a3, a4, hs, h1, h2, h3, h4, h5, h6⟩ := h
  have n1 : s.ownBlock ≠ some gd := fun e => by have := (h1.lt gd e).1; omega
  have n2 : v2.ownBlock ≠ some gd := fun e => by have := (h6.lt gd e).1; omega
  exact ⟨own_set1 (y := true) encB_len rfl a1 i hi, a2, a3, grownBy_trans a4 (grownBy_set (p := ⟨gd, i, none⟩) _), hs, own_grownBy h1 (grownBy_set _) n1, ⟨h2.1, fun i q x q1 q2 => ⟨trivial, (h2.2 i q x q1 q2).2.grown (grownBy_set (p := ⟨gd, _, none⟩) _) (h5 i q x q1 q2)⟩⟩, h3, h4, h5, own_grownBy h6 (grownBy_set _) n2⟩
/-- the polygon is one of the polygons -/
theorem Thr.push {hs : List PolH} {A : Option Addr} {m c : Nat} {w6 : World} (h : Thr D y0 w gd n dn s xs (.slice A m c) acc) (h1 : w.ownsRow y0.heap.size 42 1 s hs.length (hs.flatMap encPol)) (h2 : NestAt psl ptag 2 encPt (fun o : List Pt => o) w hs xs) (h3 : ApartP hs xs s) (h5 : ∀ (i : Nat) (h : PolH) (x : List Pt), hs[i]? = some h → xs[i]? = some x → x = [] ∨ (psl h).ownBlock ≠ some gd)
    (hb : Below w.heap.size w w6) (hown : w'.ownsRow y0.heap.size 42 1 s' (hs ++ [((A, m, c) : PolH)]).length ((hs ++ [((A, m, c) : PolH)]).flatMap encPol)) (hg : w6.grownBy w' s.ownBlock) (hat : s'.ownBlock = s.ownBlock ∨ s'.ownBlock = some w6.heap.size) : Thr D y0 w' gd n dn s' (xs ++ [acc]) (.slice none 0 0) [] := by
  obtain ⟨a1, a2, a3, a4, _, _, _, _, _, _, h6⟩ := h.below hb
  have h6' := h.2.2.2.2.choose_spec.2.2.2.2.2
  have k1 := own_below h1 hb
  have k2 := h2.below hb
  have hr : Rd 2 encPt w6 (psl ((A, m, c) : PolH)) acc := Rd.own encPt_len h6
  have hx1 : acc = [] ∨ (psl ((A, m, c) : PolH)).ownBlock ≠ s.ownBlock := by
    rcases own_two_ne h6 k1 (by decide) with e | e
    · rcases hr.blk_lt with h0 | ⟨b, hb, _⟩
      · exact .inl h0
      · have e2 : (psl ((A, m, c) : PolH)).ownBlock = none := e
        rw [e2] at hb; cases hb
    · exact .inr e
  have hx5 : acc = [] ∨ (psl ((A, m, c) : PolH)).ownBlock ≠ some gd := .inr fun e => by have := (h6.lt gd e).1; omega
  have far : ∀ {h : PolH} {x : List Pt}, Rd 2 encPt w6 (psl h) x → (x = [] ∨ (psl h).ownBlock ≠ s.ownBlock) → x = [] ∨ (psl h).ownBlock ≠ s'.ownBlock := fun {h x} hr hx => by
    rcases hx with hx | hx
    · exact .inl hx
    rcases hr.blk_lt with h0 | ⟨b, hb, hlt⟩
    · exact .inl h0
    · right
      rcases hat with e | e
      · rw [e]; exact hx
      · rw [e, hb]; intro e; injection e with e; omega
  have gr : ∀ {h : PolH} {x : List Pt}, Rd 2 encPt w6 (psl h) x → (x = [] ∨ (psl h).ownBlock ≠ s.ownBlock) → Rd 2 encPt w' (psl h) x := fun {h x} hr hx => hr.grown hg hx
  refine ⟨a1.kept hg (own_two_ne a1 k1 (by decide)), a2, a3, grownBy_row a4 hg (fun k e => (k1.lt k e).1), hs ++ [(A, m, c)], hown, ⟨by simp [h2.1], fun i q x q1 q2 => ?_⟩, fun i q x q1 q2 => ?_, fun i q x q1 q2 => ?_, fun i q x q1 q2 => ?_, World.ownsRow_nil _ _ _ _⟩
  · rcases get_snoc h2.1 q1 q2 with ⟨b1, b2⟩ | ⟨rfl, rfl⟩
    · exact ⟨trivial, gr (k2.2 i q x b1 b2).2 (h3 i q x b1 b2)⟩
    · exact ⟨trivial, gr hr hx1⟩
  · rcases get_snoc h2.1 q1 q2 with ⟨b1, b2⟩ | ⟨rfl, rfl⟩
    · exact far (k2.2 i q x b1 b2).2 (h3 i q x b1 b2)
    · exact far hr hx1
  · have hrd : x = [] ∨ ∃ b, (psl q).ownBlock = some b := by
      rcases get_snoc h2.1 q1 q2 with ⟨b1, b2⟩ | ⟨rfl, rfl⟩
      · rcases (k2.2 i q x b1 b2).2.blk_lt with h0 | ⟨b, hb, _⟩
        · exact .inl h0
        · exact .inr ⟨b, hb⟩
      · rcases hr.blk_lt with h0 | ⟨b, hb, _⟩
        · exact .inl h0
        · exact .inr ⟨b, hb⟩
    rcases hrd with h0 | ⟨b, hb⟩
    · exact .inl h0
    · right; rw [hb]; intro e; cases e
  · rcases get_snoc h2.1 q1 q2 with ⟨b1, b2⟩ | ⟨rfl, rfl⟩
    · exact h5 i q x b1 b2
    · exact hx5
theorem Thr.rd (h : Thr D y0 w gd n dn s xs v2 acc) : RdPols w s xs := by
  obtain ⟨a1, a2, a3, a4, hs, h1, h2, _⟩ := h
  exact ⟨hs, Rd.own encPol_len h1, h2⟩
theorem Thr.kin {w0 : World} (h : Thr D y0 w gd n dn s xs v2 acc) (hw : Below w0.heap.size w0 y0) (hD : w0.heap.size ≤ gd) : Below w0.heap.size w0 w :=
  hw.grown h.2.2.2.1 hw.size (fun k e => by injection e with e; omega)
end
/-- what a number that 'least' returns says of the sorted rest -/
structure Rem (l : List Sg) (dn : List Bool) (R : List Sg) : Prop where
  srt : SrtS R
  perm : R.Perm (remL l dn)
theorem Rem.mem {l : List Sg} {dn : List Bool} {R : List Sg} (h : Rem l dn R) {s : Sg} : s ∈ R ↔ ∃ i : Nat, l[i]? = some s ∧ dn[i]? = some false ∧ full s = true := by
  rw [h.perm.mem_iff]; exact mem_rem
/-- the least one of all -/
theorem Rem.least {l : List Sg} {dn : List Bool} {R : List Sg} {p : Pt} {r : Int} (h : Rem l dn R) (hr : LeastP l dn false p l.length r) :
    (r = -1 ∧ R = []) ∨ ∃ (i : Nat) (s : Sg), r = (i : Int) ∧ i < l.length ∧ l[i]? = some s ∧ dn[i]? = some false ∧ full s = true ∧ ∃ t, R = s :: t := by
  rcases hr with ⟨rfl, hr⟩ | ⟨i, s, rfl, hi, hc, hm⟩
  · refine .inl ⟨rfl, List.eq_nil_iff_forall_not_mem.2 fun s hs => ?_⟩
    obtain ⟨i, h1, h2, h3⟩ := h.mem.1 hs
    exact hr i s (List.getElem?_eq_some_iff.1 h1).1 ⟨h1, h2, h3, fun e => by cases e⟩
  · refine .inr ⟨i, s, rfl, hi, hc.1, hc.2.1, hc.2.2.1, ?_⟩
    have hs : s ∈ R := h.mem.2 ⟨i, hc.1, hc.2.1, hc.2.2.1⟩
    cases R with
    | nil => cases hs
    | cons a t =>
      have ha : a = s := by
        rcases List.mem_cons.1 hs with e | hs'
        · exact e.symm
        · have h1 : ¬ ltS s a := (List.pairwise_cons.1 h.srt).1 s hs'
          obtain ⟨j, q1, q2, q3⟩ := h.mem.1 (show a ∈ a :: t by simp)
          have h2 : ¬ ltS a s := hm j a (List.getElem?_eq_some_iff.1 q1).1 ⟨q1, q2, q3, fun e => by cases e⟩
          exact ltS_tri h2 h1
      subst ha
      exact ⟨t, rfl⟩
/-- the least one that begins at a point -/
theorem Rem.leastAt {l : List Sg} {dn : List Bool} {R : List Sg} {p : Pt} {r : Int} (h : Rem l dn R) (hr : LeastP l dn true p l.length r) :
    (r = -1 ∧ ends R p = []) ∨ ∃ (i : Nat) (s : Sg), r = (i : Int) ∧ i < l.length ∧ l[i]? = some s ∧ dn[i]? = some false ∧ full s = true ∧ s.1 = p ∧ ∃ t, ends R p = s.2 :: t := by
  rcases hr with ⟨rfl, hr⟩ | ⟨i, s, rfl, hi, hc, hm⟩
  · refine .inl ⟨rfl, ends_nil.2 fun s hs e => ?_⟩
    obtain ⟨i, h1, h2, h3⟩ := h.mem.1 hs
    exact hr i s (List.getElem?_eq_some_iff.1 h1).1 ⟨h1, h2, h3, fun _ => e⟩
  · have hp := hc.2.2.2 rfl
    refine .inr ⟨i, s, rfl, hi, hc.1, hc.2.1, hc.2.2.1, hp, ?_⟩
    have hs : s ∈ R := h.mem.2 ⟨i, hc.1, hc.2.1, hc.2.2.1⟩
    have hse : s.2 ∈ ends R p := mem_ends.2 (by rw [← hp]; exact hs)
    match he : ends R p with
    | [] => rw [he] at hse; cases hse
    | b :: t =>
      have hb : (p, b) ∈ R := mem_ends.1 (by rw [he]; simp)
      obtain ⟨j, q1, q2, q3⟩ := h.mem.1 hb
      have h2 : ¬ ltS (p, b) s := hm j (p, b) (List.getElem?_eq_some_iff.1 q1).1 ⟨q1, q2, q3, fun _ => rfl⟩
      have h3 : SrtX (ends R p) := by
        unfold ends SrtX
        rw [List.pairwise_map]
        refine List.Pairwise.imp_of_mem ?_ (h.srt.filter _)
        intro a b ha hb hab hlt
        simp at ha hb
        exact hab (.inr ⟨by rw [ha.2, hb.2], hlt⟩)
      have e : b = s.2 := by
        rw [he] at hse h3
        rcases List.mem_cons.1 hse with e | hse
        · exact e.symm
        · have h4 := (List.pairwise_cons.1 h3).1 s.2 hse
          have h5 : ¬ ltX b s.2 := fun hlt => h2 (.inr ⟨hp.symm, hlt⟩)
          exact ltX_tri h5 h4
      subst e
      exact ⟨t, rfl⟩
theorem Rem.mark {l : List Sg} {dn : List Bool} {R : List Sg} {p b : Pt} {t : List Pt} {i : Nat} (h : Rem l dn R) (h1 : l[i]? = some (p, b)) (h2 : dn[i]? = some false) (h3 : full (p, b) = true) (he : ends R p = b :: t) : Rem l (dn.set i true) (pop R p) := by
  refine ⟨pop_srt h.srt, ?_⟩
  have e1 := rem_mark h1 h2 h3
  have e2 := pop_perm he
  exact (e2.symm.trans (h.perm.trans e1)).cons_inv
end Go.Proofs.Yteadnlodccnfcaa

/- Nest: plain laws and words for memory. -/
import Derived.Test.YteadnlodccnfcaaCtrCrs
namespace Go.Proofs.Yteadnlodccnfcaa
set_option linter.unusedSimpArgs false
set_option linter.unusedVariables false
set_option maxRecDepth 100000
open Go.RowKit Planar Go.Sort
def sumN (l : List (List Pt)) : Nat := (l.map List.length).sum
def validL (l : List (List Pt)) : Bool := l.all fun o => o.all vld
def nestE (l : List (List Pt)) : Int := if l.length > 64 ∨ sumN l > 1024 then 2 else if validL l then 0 else 8
/-- how many of the first j polygons, but for the i-th, contain a point -/
def cntN (l : List (List Pt)) (i : Nat) (p : Pt) (j : Nat) : Nat := (List.range j).countP fun k => decide (k ≠ i) && conP (segsO (l.getD k [])) p
def nestAt (l : List (List Pt)) (i : Nat) : Int := if l.getD i [] = [] then 0 else cntN l i (minP (l.getD i [])) l.length
def nestTo (l : List (List Pt)) (k : Nat) : List Int := (List.range k).map (nestAt l)
def nestL (l : List (List Pt)) : List Int := if nestE l = 0 then nestTo l l.length else []
theorem sumN_take {l : List (List Pt)} {k : Nat} {o : List Pt} (h : l[k]? = some o) : sumN (l.take (k + 1)) = sumN (l.take k) + o.length := by
  unfold sumN; rw [List.take_add_one, h]; simp
theorem sumN_mul {l : List (List Pt)} {b : Nat} (h : ∀ o ∈ l, o.length ≤ b) : sumN l ≤ l.length * b := by
  induction l with
  | nil => simp [sumN]
  | cons o l ih =>
    have h1 := h o (by simp)
    have h2 := ih (fun q hq => h q (by simp [hq]))
    unfold sumN at *
    simp only [List.map_cons, List.sum_cons, List.length_cons, Nat.add_mul]
    omega
theorem validL_take {l : List (List Pt)} {k : Nat} {o : List Pt} (h : l[k]? = some o) : validL (l.take (k + 1)) = (validL (l.take k) && o.all vld) := by
  unfold validL; rw [List.take_add_one, h]; simp
theorem cntN_succ (l : List (List Pt)) (i : Nat) (p : Pt) (j : Nat) : cntN l i p (j + 1) = cntN l i p j + (if j ≠ i ∧ conP (segsO (l.getD j [])) p = true then 1 else 0) := by
  unfold cntN
  rw [List.range_succ, List.countP_append]
  congr 1
  rw [List.countP_cons, List.countP_nil, Nat.zero_add]
  generalize conP (segsO (l.getD j [])) p = c
  by_cases h1 : j = i <;> cases c <;> simp [h1]
theorem cntN_le (l : List (List Pt)) (i : Nat) (p : Pt) (j : Nat) : cntN l i p j ≤ j := by
  have := List.countP_le_length (l := List.range j) (p := fun k => decide (k ≠ i) && conP (segsO (l.getD k [])) p)
  rw [List.length_range] at this
  exact this
theorem nestTo_succ (l : List (List Pt)) (k : Nat) : nestTo l (k + 1) = nestTo l k ++ [nestAt l k] := by simp [nestTo, List.range_succ]
theorem nestTo_len (l : List (List Pt)) (k : Nat) : (nestTo l k).length = k := by simp [nestTo]
theorem getD_of {l : List (List Pt)} {k : Nat} {o : List Pt} (h : l[k]? = some o) : l.getD k [] = o := by rw [List.getD_eq_getElem?_getD, h]; rfl
/-- the row of numbers while the k-th one is counted -/
def rowN (l : List (List Pt)) (k n : Nat) (c : Int) : List Int := nestTo l k ++ c :: List.replicate (n - k - 1) 0
theorem rowN_start {l : List (List Pt)} {k n : Nat} (h : k < n) : nestTo l k ++ List.replicate (n - k) 0 = rowN l k n 0 := by
  unfold rowN; rw [show n - k = (n - k - 1) + 1 by omega, List.replicate_succ, Nat.add_sub_cancel]
theorem rowN_end {l : List (List Pt)} {k n : Nat} (h : k < n) : rowN l k n (nestAt l k) = nestTo l (k + 1) ++ List.replicate (n - (k + 1)) 0 := by
  unfold rowN; rw [nestTo_succ, List.append_assoc]; rfl
theorem rowN_len {l : List (List Pt)} {k n : Nat} {c : Int} (h : k < n) : (rowN l k n c).length = n := by
  unfold rowN; rw [List.length_append, nestTo_len, List.length_cons, List.length_replicate]; omega
theorem rowN_get {l : List (List Pt)} {k n : Nat} {c : Int} : (rowN l k n c)[k]? = some c := by
  unfold rowN; rw [List.getElem?_append_right (by rw [nestTo_len]; exact Nat.le_refl _), nestTo_len, Nat.sub_self]; rfl
theorem rowN_set {l : List (List Pt)} {k n : Nat} {c d : Int} : (rowN l k n c).set k d = rowN l k n d := by
  unfold rowN; rw [List.set_append_right _ _ (by rw [nestTo_len]; exact Nat.le_refl _), nestTo_len, Nat.sub_self]; rfl
theorem infoSgs : (Try.prog.info? 22).map (fun i => (i.zero, i.size, i.bytes)) = some (some (.slice none 0 0), 1, 24) := by kernel_rfl
theorem rdPols_one (w : World) {A : Option Addr} {n c : Nat} {o : List Pt} (h : Rd 2 encPt w (.slice A n c) o) : RdPols (w.alloc (.cells #[.slice A n c] 42)) (.slice (some ⟨w.heap.size, 0, none⟩) 1 1) [o] :=
  ⟨[(A, n, c)], rd_one w encPol_len 42 ((A, n, c) : PolH) _ rfl rfl, rfl, fun i q x hq hx => by
    match i, hq, hx with
    | 0, hq, hx => simp at hq hx; subst hq hx; exact ⟨trivial, h.below ((Below.refl _ _).alloc (Nat.le_refl _) _)⟩⟩
theorem pols_op {W : World} {A : Option Addr} {n cap : Nat} {l : List (List Pt)} (h : RdPols W (.slice A n cap) l) : ∀ (i : Nat) (o : List Pt), l[i]? = some o → ∃ b off, A = some ⟨b, off, none⟩ ∧ b < W.heap.size ∧
      ∀ (i : Nat) (o : List Pt), l[i]? = some o → ∃ (S : Option Addr) (c : Nat), W.cell? ⟨b, off + i, none⟩ = some (.slice S o.length c) ∧ o.length ≤ c ∧ Rd 2 encPt W (.slice S o.length c) o := by
  obtain ⟨_, _, ho⟩ := RdN.op h
  intro i w hw
  obtain ⟨b, off, hA, hb, hcell⟩ := ho i w hw
  exact ⟨b, off, hA, hb, pols_each hcell⟩
/-- the row of segments while it is filled: the first k polygons are done -/
def EdgM (base : Nat) (w : World) (ge n : Nat) (l : List (List Pt)) (k : Nat) (hs : List PolH) : Prop :=
  hs.length = n ∧ w.ownsRow base 22 1 (.slice (some ⟨ge, 0, none⟩) n n) n (hs.flatMap encPol) ∧
  ∀ j o, j < k → l[j]? = some o → ∃ h, hs[j]? = some h ∧ Rd 4 encSg w (psl h) (segsO o) ∧ (segsO o = [] ∨ (psl h).ownBlock ≠ some ge)
theorem EdgM.below {base : Nat} {w w' : World} {ge n : Nat} {l : List (List Pt)} {k : Nat} {hs : List PolH} (h : EdgM base w ge n l k hs) (hb : Below w.heap.size w w') : EdgM base w' ge n l k hs := by
  obtain ⟨h1, h2, h3⟩ := h
  refine ⟨h1, own_below h2 hb, fun j o hj ho => ?_⟩
  obtain ⟨q, q1, q2, q3⟩ := h3 j o hj ho
  exact ⟨q, q1, q2.below hb, q3⟩
theorem EdgM.set {base : Nat} {w : World} {ge n : Nat} {l : List (List Pt)} {k : Nat} {hs : List PolH} (h : EdgM base w ge n l k hs) (hk : k < n) {o : List Pt} (ho : l[k]? = some o) {A : Option Addr} {m c : Nat} (hr : Rd 4 encSg w (.slice A m c) (segsO o)) (hne : segsO o = [] ∨ (Value.slice A m c).ownBlock ≠ some ge) :
    EdgM base (w.setCell ⟨ge, k, none⟩ (.slice A m c)) ge n l (k + 1) (hs.set k (A, m, c)) := by
  obtain ⟨h1, h2, h3⟩ := h
  refine ⟨by rw [List.length_set, h1], ?_, fun j o' hj ho' => ?_⟩
  · exact own_set1 (y := ((A, m, c) : PolH)) encPol_len rfl h2 k hk
  · by_cases e : j = k
    · subst e
      rw [ho] at ho'; injection ho' with ho'; subst ho'
      exact ⟨(A, m, c), by rw [List.getElem?_set_self (by rw [h1]; exact hk)], hr.grown (grownBy_set _) hne, hne⟩
    · obtain ⟨q, q1, q2, q3⟩ := h3 j o' (by omega) ho'
      exact ⟨q, by rw [List.getElem?_set_ne (fun e' => e e'.symm)]; exact q1, q2.grown (grownBy_set _) q3, q3⟩
theorem EdgM.get {base : Nat} {w : World} {ge n : Nat} {l : List (List Pt)} {hs : List PolH} (h : EdgM base w ge n l n hs) {j : Nat} {o : List Pt} (hj : j < n) (ho : l[j]? = some o) :
    ∃ A c, w.cell? ⟨ge, j, none⟩ = some (.slice A o.length c) ∧ o.length ≤ c ∧ Rd 4 encSg w (.slice A o.length c) (segsO o) ∧ ge < w.heap.size := by
  obtain ⟨h1, h2, h3⟩ := h
  obtain ⟨⟨A, m, c⟩, q1, q2, _⟩ := h3 j o hj ho
  have hlen : (segsO o).length = o.length := by unfold segsO; rw [segsTo_len]
  obtain ⟨A', c', e, hc, _⟩ := q2.open_
  unfold psl at e q2
  simp only at e q2
  injection e with e1 e2 e3
  rw [hlen] at e2 hc
  subst e2
  refine ⟨A, c, ?_, by rw [e3]; exact hc, q2, (h2.lt ge rfl).2⟩
  have hr : Rd 1 encPol w (.slice (some ⟨ge, 0, none⟩) n n) hs := Rd.own' encPol_len (by decide) h2
  obtain ⟨b, off, hA, hb, hcell⟩ := Rd.op hr j _ q1
  injection hA with hA
  injection hA with e4 e5
  subst e4 e5
  have := hcell j _ q1 0 _ rfl
  unfold psl at this
  simpa using this
theorem nestAt_nil {l : List (List Pt)} {i : Nat} {o : List Pt} (h : l[i]? = some o) (h0 : o.length = 0) : nestAt l i = 0 := by
  unfold nestAt; rw [getD_of h, if_pos (List.eq_nil_of_length_eq_zero h0)]
theorem nestAt_cnt {l : List (List Pt)} {i : Nat} {o : List Pt} (h : l[i]? = some o) (h0 : o.length ≠ 0) : nestAt l i = cntN l i (minP o) l.length := by
  unfold nestAt; rw [getD_of h, if_neg (fun e => h0 (by rw [e]; rfl))]
theorem nest_skip {l : List (List Pt)} {k n : Nat} (h : k < n) (h0 : nestAt l k = 0) : nestTo l k ++ List.replicate (n - k) 0 = nestTo l (k + 1) ++ List.replicate (n - (k + 1)) 0 := by
  rw [rowN_start h]
  have := rowN_end (l := l) h
  rw [h0] at this
  exact this
theorem cntN_yes {l : List (List Pt)} {i j : Nat} {p : Pt} {o : List Pt} (h : l[j]? = some o) (hj : j ≠ i) (hc : conP (segsO o) p = true) : cntN l i p (j + 1) = cntN l i p j + 1 := by
  rw [cntN_succ, getD_of h, if_pos ⟨hj, hc⟩]
theorem cntN_no {l : List (List Pt)} {i j : Nat} {p : Pt} {o : List Pt} (h : l[j]? = some o) (hc : conP (segsO o) p = false) : cntN l i p (j + 1) = cntN l i p j := by
  rw [cntN_succ, getD_of h, if_neg (fun h => by rw [hc] at h; exact absurd h.2 (by simp))]; rfl
theorem cntN_own (l : List (List Pt)) (i : Nat) (p : Pt) : cntN l i p (i + 1) = cntN l i p i := by
  rw [cntN_succ, if_neg (fun h => h.1 rfl)]; rfl
/-- the k-th number in memory -/
theorem rowN_cell {base : Nat} {w : World} {go n k : Nat} {l : List (List Pt)} {c : Int} (h : w.ownsRow base 3 1 (.slice (some ⟨go, 0, none⟩) n n) n ((rowN l k n c).flatMap encI)) : w.cell? ⟨go, k, none⟩ = some (.int .i64 c) := by
  have hr : Rd 1 encI w (.slice (some ⟨go, 0, none⟩) n n) (rowN l k n c) := Rd.own' encI_len (by decide) h
  obtain ⟨b, off, hA, hb, hcell⟩ := Rd.op hr k _ rowN_get
  injection hA with hA
  injection hA with e4 e5
  subst e4 e5
  have := hcell k _ rowN_get 0 _ rfl
  simpa using this
theorem rowN_store {base : Nat} {w : World} {go n k : Nat} {l : List (List Pt)} {c d : Int} (hk : k < n) (h : w.ownsRow base 3 1 (.slice (some ⟨go, 0, none⟩) n n) n ((rowN l k n c).flatMap encI)) :
    (w.setCell ⟨go, k, none⟩ (.int .i64 d)).ownsRow base 3 1 (.slice (some ⟨go, 0, none⟩) n n) n ((rowN l k n d).flatMap encI) := by
  have := own_set1 (y := d) encI_len rfl h k hk
  rw [rowN_set] at this
  exact this
end Go.Proofs.Yteadnlodccnfcaa

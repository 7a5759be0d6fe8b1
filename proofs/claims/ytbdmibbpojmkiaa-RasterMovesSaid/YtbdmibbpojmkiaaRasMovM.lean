/- Polygons moved by whole cells: the region moves. -/
import Derived.Test.YtbdmibbpojmkiaaRasSome
import Derived.Test.YtbdmibbpojmkiaaRasMathC
import Derived.Test.YtbdmibbpojmkiaaRegShift
namespace Go.Proofs.Ytbdmibbpojmkiaa
set_option linter.unusedSimpArgs false
set_option linter.unusedVariables false
open Runs Reg Ras
/-- a point, a polygon, polygons moved by (a, b) -/
def mvP (a b : Int) (q : P2) : P2 := (q.1 + a, q.2 + b)
def mvTo (a b : Int) (o : List P2) (m : Nat) : List P2 := (o.take m).map (mvP a b)
def mvL (a b : Int) (l : List (List P2)) (k : Nat) : List (List P2) := (l.take k).map fun o => o.map (mvP a b)
theorem mvTo_succ {a b : Int} {o : List P2} {m : Nat} {q : P2} (h : o[m]? = some q) : mvTo a b o (m + 1) = mvTo a b o m ++ [mvP a b q] := by unfold mvTo; rw [List.take_add_one, h, List.map_append]; rfl
theorem mvTo_all (a b : Int) (o : List P2) : mvTo a b o o.length = o.map (mvP a b) := by unfold mvTo; rw [List.take_length]
theorem mvTo_len (a b : Int) (o : List P2) (m : Nat) : (mvTo a b o m).length ≤ m := by unfold mvTo; rw [List.length_map]; exact List.length_take_le _ _
theorem mvL_succ {a b : Int} {l : List (List P2)} {k : Nat} {o : List P2} (h : l[k]? = some o) : mvL a b l (k + 1) = mvL a b l k ++ [o.map (mvP a b)] := by unfold mvL; rw [List.take_add_one, h, List.map_append]; rfl
theorem mvL_all (a b : Int) (l : List (List P2)) : mvL a b l l.length = l.map fun o => o.map (mvP a b) := by unfold mvL; rw [List.take_length]
theorem mvL_len (a b : Int) (l : List (List P2)) (k : Nat) : (mvL a b l k).length ≤ k := by unfold mvL; rw [List.length_map]; exact List.length_take_le _ _
theorem sideAt_mv (a b : Int) (o : List P2) {i : Nat} (h : i < o.length) : sideAt (o.map (mvP a b)) i = (mvP a b (sideAt o i).1, mvP a b (sideAt o i).2) := by
  have h2 : (i + 1) % o.length < o.length := Nat.mod_lt _ (by omega)
  unfold sideAt
  simp only [List.length_map, List.getElem?_map]
  rw [List.getElem?_eq_getElem h, List.getElem?_eq_getElem h2]
  rfl
theorem addW_mv (a b : Int) (s t p : P2) : addW (mvP a b s) (mvP a b t) (mvP a b p) = addW s t p := by
  have e : crs (mvP a b s) (mvP a b t) (mvP a b p) = crs s t p := by
    unfold crs mvP
    simp only
    rw [show t.1 + a - (s.1 + a) = t.1 - s.1 by omega, show p.2 + b - (s.2 + b) = p.2 - s.2 by omega, show t.2 + b - (s.2 + b) = t.2 - s.2 by omega, show p.1 + a - (s.1 + a) = p.1 - s.1 by omega]
  unfold addW
  rw [e]
  have h1 : (mvP a b s).2 ≤ (mvP a b p).2 ↔ s.2 ≤ p.2 := by unfold mvP; simp only; omega
  have h2 : (mvP a b p).2 < (mvP a b t).2 ↔ p.2 < t.2 := by unfold mvP; simp only; omega
  have h3 : (mvP a b t).2 ≤ (mvP a b p).2 ↔ t.2 ≤ p.2 := by unfold mvP; simp only; omega
  have h4 : (mvP a b p).2 < (mvP a b s).2 ↔ p.2 < s.2 := by unfold mvP; simp only; omega
  simp only [h1, h2, h3, h4]
theorem windS_mv (a b : Int) (o : List P2) (p : P2) : windS (sides (o.map (mvP a b))) (mvP a b p) = windS (sides o) p := by
  have key : ∀ k, k ≤ o.length → windS (sidesTo (o.map (mvP a b)) k) (mvP a b p) = windS (sidesTo o k) p := by
    intro k
    induction k with
    | zero => intro _; rfl
    | succ k ih =>
      intro hk
      rw [sidesTo_succ, sidesTo_succ, windS_append, windS_append, ih (by omega), sideAt_mv a b o (by omega)]
      show _ + (addW _ _ _ + 0) = _ + (addW _ _ _ + 0)
      rw [addW_mv]
  unfold sides
  rw [List.length_map]
  exact key _ (Nat.le_refl _)
theorem wind_mv (a b : Int) (l : List (List P2)) (p : P2) : wind (l.map fun o => o.map (mvP a b)) (mvP a b p) = wind l p := by
  induction l with
  | nil => rfl
  | cons o l ih => rw [List.map_cons, wind_cons, wind_cons, windS_mv, ih]
theorem ctr_mv (x d p : Int) : ctr (x + d) p = ctr x p + d * p := by unfold ctr; rw [Int.add_mul]; omega
theorem inP_mv (l : List (List P2)) (p x y dx dy : Int) : inP (l.map fun o => o.map (mvP (dx * p) (dy * p))) p (x + dx) (y + dy) = inP l p x y := by
  unfold inP
  have := wind_mv (dx * p) (dy * p) l (ctr x p, ctr y p)
  unfold mvP at this
  simp only at this
  rw [ctr_mv, ctr_mv]
  exact congrArg (fun n => decide (0 < n)) this
theorem mem_sh (l : List Run) (d x : Int) : mem (l.map (sh d)) x = mem l (x - d) := by
  rw [Bool.eq_iff_iff, mem_iff, mem_iff]
  constructor
  · rintro ⟨r, hr, h1, h2⟩
    obtain ⟨q, hq, rfl⟩ := List.mem_map.1 hr
    unfold sh at h1 h2
    simp only at h1 h2
    exact ⟨q, hq, by omega, by omega⟩
  · rintro ⟨q, hq, h1, h2⟩
    refine ⟨sh d q, List.mem_map.2 ⟨q, hq, rfl⟩, ?_, ?_⟩
    · unfold sh; simp only; omega
    · unfold sh; simp only; omega
theorem memC_shR (rows : List Reg.Row) (dx dy x y : Int) : memC (shR rows dx dy) x y = memC rows (x - dx) (y - dy) := by
  rw [Bool.eq_iff_iff, memC_iff, memC_iff]
  unfold shR
  constructor
  · rintro ⟨w, hw, h1, h2⟩
    obtain ⟨v, hv, rfl⟩ := List.mem_map.1 hw
    simp only at h1 h2
    rw [mem_sh] at h2
    exact ⟨v, hv, by omega, h2⟩
  · rintro ⟨v, hv, h1, h2⟩
    exact ⟨_, List.mem_map.2 ⟨v, hv, rfl⟩, by simp only; omega, by simp only; rw [mem_sh]; exact h2⟩
theorem shR_vreg {rows : List Reg.Row} {dx dy M : Int} (h : VReg rows) (hw : Within rows M) (hdx : -20 ≤ dx ∧ dx ≤ 20) (hdy : -20 ≤ dy ∧ dy ≤ 20) (hM : 0 ≤ M ∧ M ≤ 4000) : VReg (shR rows dx dy) := by
  unfold shR
  refine ⟨fun w hw2 => ?_, ?_⟩
  · obtain ⟨v, hv, rfl⟩ := List.mem_map.1 hw2
    have h1 := hw v hv
    have h2 := fine_iff.1 (h.1 v hv).2
    refine ⟨by unfold okC; rw [decide_eq_true_eq]; simp only; omega, fine_iff.2 ⟨⟨fun r hr => ?_, ?_⟩, fun r hr => ?_, ?_⟩⟩
    · obtain ⟨q, hq, rfl⟩ := List.mem_map.1 hr
      have := h2.1.1 q hq
      unfold sh; simp only; omega
    · simp only
      rw [List.pairwise_map]
      exact h2.1.2.imp fun {a b} hab => by unfold sh; simp only; omega
    · obtain ⟨q, hq, rfl⟩ := List.mem_map.1 hr
      have := h1.2 q hq
      unfold sh; simp only; omega
    · simpa using h2.2.2
  · rw [List.pairwise_map]
    exact h.2.imp fun {a b} hab => by simp only; omega
theorem rasR_within {l : List (List P2)} {p N : Int} (hp : 2 ≤ p) (hN : Near l p N) (hN0 : 0 ≤ N) : Within (rasR l p) N := by
  intro w hw
  have hv := (rasR_spec l p).1
  have hf := fine_iff.1 (hv.1 w hw).2
  have key : ∀ x, mem w.2 x = true → -N ≤ x ∧ x < N ∧ -N ≤ w.1 ∧ w.1 < N := fun x hx => by
    have := ((rasR_spec l p).2 x w.1).1 (memC_iff.2 ⟨w, hw, rfl, hx⟩)
    exact inP_near hp hN this.2.2
  obtain ⟨x, hx⟩ := fine_some (hv.1 w hw).2
  have h1 := key x hx
  refine ⟨by omega, fun r hr => ?_⟩
  have h2 := sep_ends hf.1 hr
  have h3 := key _ h2.1
  have h4 := key _ h2.2
  omega
theorem ras_mv {l : List (List P2)} {p N dx dy : Int} (hp : 2 ≤ p) (hN : Near l p N) (hN0 : 0 ≤ N ∧ N ≤ 4000) (hdx : -20 ≤ dx ∧ dx ≤ 20) (hdy : -20 ≤ dy ∧ dy ≤ 20) : rasR (l.map fun o => o.map (mvP (dx * p) (dy * p))) p = shR (rasR l p) dx dy := by
  refine vreg_ext (rasR_spec _ _).1 (shR_vreg (rasR_spec l p).1 (rasR_within hp hN hN0.1) hdx hdy hN0) fun x y => ?_
  rw [memC_shR, Bool.eq_iff_iff, (rasR_spec _ _).2, (rasR_spec _ _).2]
  have e := inP_mv l p (x - dx) (y - dy) dx dy
  rw [show x - dx + dx = x by omega, show y - dy + dy = y by omega] at e
  rw [e]
  constructor
  · rintro ⟨h1, h2, h3⟩
    have := inP_near hp hN h3
    exact ⟨by omega, by omega, h3⟩
  · rintro ⟨h1, h2, h3⟩
    have := inP_near hp hN h3
    exact ⟨by omega, by omega, h3⟩
theorem cutR_small {x : Int} (h : -65536 ≤ cutR x ∧ cutR x ≤ 65536) : -2000 ≤ cutR x ∧ cutR x ≤ 2000 := by
  unfold cutR at *
  have h1 := Int.tmod_lt_of_pos x (show (0 : Int) < 2001 by omega)
  have h2 := Int.lt_tmod_of_pos x (show (0 : Int) < 2001 by omega)
  split at h <;> rename_i hc
  · omega
  · rw [if_neg hc]; omega
theorem someR_pts {l : List (List P2)} (h : okPs (someR l) = true) : ∀ o ∈ someR l, ∀ q ∈ o, -2000 ≤ q.1 ∧ q.1 ≤ 2000 ∧ -2000 ≤ q.2 ∧ q.2 ≤ 2000 := by
  intro o ho q hq
  have h1 := okPt_iff.1 (okPs_iff.1 h o ho q hq)
  unfold someR someTo at ho
  obtain ⟨o2, _, rfl⟩ := List.mem_map.1 ho
  unfold cutO at hq
  obtain ⟨r, _, rfl⟩ := List.mem_map.1 hq
  unfold cutP at h1 ⊢
  have h2 := cutR_small (x := r.1) ⟨h1.1, h1.2.1⟩
  have h3 := cutR_small (x := r.2) ⟨h1.2.2.1, h1.2.2.2⟩
  simp only
  omega
theorem near63 {l : List (List P2)} {p : Int} (hp : 32 ≤ p) (h : ∀ o ∈ l, ∀ q ∈ o, -2000 ≤ q.1 ∧ q.1 ≤ 2000 ∧ -2000 ≤ q.2 ∧ q.2 ≤ 2000) : Near l p 63 := by
  intro o ho q hq
  have := h o ho q hq
  omega
theorem mv_okPs {l : List (List P2)} {a b : Int} (h : ∀ o ∈ l, ∀ q ∈ o, -2000 ≤ q.1 ∧ q.1 ≤ 2000 ∧ -2000 ≤ q.2 ∧ q.2 ≤ 2000) (ha : -20480 ≤ a ∧ a ≤ 20480) (hb : -20480 ≤ b ∧ b ≤ 20480) : okPs (l.map fun o => o.map (mvP a b)) = true := by
  rw [okPs_iff]
  intro o ho q hq
  obtain ⟨o2, ho2, rfl⟩ := List.mem_map.1 ho
  obtain ⟨r, hr, rfl⟩ := List.mem_map.1 hq
  have := h o2 ho2 r hr
  rw [okPt_iff]
  unfold mvP
  simp only; omega
theorem mv_few {l : List (List P2)} {a b : Int} (h : FewP l) : FewP (l.map fun o => o.map (mvP a b)) := by
  unfold FewP at *
  have e : ptsN (l.map fun o => o.map (mvP a b)) = ptsN l := by unfold ptsN; rw [List.map_map]; congr 1; exact List.map_congr_left fun o _ => by simp
  rw [e, List.length_map]; exact h
end Go.Proofs.Ytbdmibbpojmkiaa

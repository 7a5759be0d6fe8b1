/- Lemmas: TrcTr. -/
import Derived.Test.YtneelidbgigehaaGreatT04
import Derived.Test.YtneelidbgigehaaGreatT09
import Derived.Test.YtneelidbgigehaaGreatT14
import Derived.Test.YtneelidbgigehaaGreatT16
import Derived.Test.YtneelidbgigehaaGreatT17
import Derived.Test.YtneelidbgigehaaGreatT19
/- The polygons along the boundary of a region, scaled: they wind once around the center of each cell of it. (joined: TrcWind TrcTrace TopMath) -/
/- The polygons along the boundary of a region, scaled: they wind once around the center of each cell of it. -/
namespace Go.Proofs.YtneelidbgigehaaGreat
set_option linter.unusedSimpArgs false
set_option linter.unusedVariables false
namespace Trc
open Runs Reg Ras
/-- where a leg ends -/
def endL (l : Leg) : Pt := stepN l.2.1 l.2.2 l.1
theorem step_eq (h : Int) (k : Nat) (p : Pt) : stepN h k p = if h = 0 then (p.1 + k, p.2) else if h = 1 then (p.1, p.2 + k) else if h = 2 then (p.1 - k, p.2) else (p.1, p.2 - k) := by
  induction k with
  | zero => unfold stepN; simp
  | succ k ih =>
    show fromP h (stepN h k p) = _
    rw [ih]
    unfold fromP
    (repeat' split) <;> simp <;> omega
end Trc
end Go.Proofs.YtneelidbgigehaaGreat
/- The boundary of a valid region: Trace, walked. -/
namespace Go.Proofs.YtneelidbgigehaaGreat
set_option linter.unusedSimpArgs false
set_option linter.unusedVariables false
set_option maxRecDepth 100000
open Go Go.Maps Go.RowKit Trc Runs Reg
attribute [local go_sem] Kin.cell Kin.frozen Kin.lt0 Kin.lt1 Kin.lt2 Kin.lt3 run_mkf
theorem nodup_len {α : Type} [DecidableEq α] : ∀ (L M : List α), L.Nodup → (∀ x ∈ L, x ∈ M) → L.length ≤ M.length
  | [], M, _, _ => Nat.zero_le _
  | x :: L, M, h, hs => by
    have hx := hs x (by simp)
    have h2 := List.nodup_cons.1 h
    have := nodup_len L (M.erase x) h2.2 (fun y hy => (List.mem_erase_of_ne (show y ≠ x from fun e => h2.1 (by rw [← e]; exact hy))).2 (hs y (by simp [hy])))
    rw [List.length_erase_of_mem hx] at this
    have := List.length_pos_of_mem hx
    simp; omega
theorem walkP_sub : ∀ (n : Nat) (R : List Ck) (s p : Pt) (h : Int) (acc : List Pt), (∀ c ∈ (walkP n R s p h acc).2, c ∈ R) ∧ (walkP n R s p h acc).2.length ≤ R.length
  | 0, R, s, p, h, acc => by unfold walkP; exact ⟨fun _ h => h, Nat.le_refl _⟩
  | n + 1, R, s, p, h, acc => by
    have hsub : ∀ c, c ∈ R.erase (p, h) → c ∈ R := fun c hc => List.mem_of_mem_erase hc
    have hlen : (R.erase (p, h)).length ≤ R.length := List.length_erase_le
    unfold walkP
    split
    · split
      · exact ⟨hsub, hlen⟩
      · split
        · have := walkP_sub n (R.erase (p, h)) s (fromP h p) h acc
          exact ⟨fun c hc => hsub c (this.1 c hc), Nat.le_trans this.2 hlen⟩
        · rename_i g _
          have := walkP_sub n (R.erase (p, h)) s (fromP h p) g (if g ≠ h then acc ++ [fromP h p] else acc)
          exact ⟨fun c hc => hsub c (this.1 c hc), Nat.le_trans this.2 hlen⟩
    · exact ⟨fun _ h => h, Nat.le_refl _⟩
theorem RngM.kept {P : Program} {K : TypeId} {w w' : World} {b r n cnt : Nat} {F : Key → Option Value} {left : Key → Bool} {row : Option Nat} (h : RngM P K w b r n F left cnt) (hg : w.grownBy w' row) (hb : some b ≠ row) (hr : some r ≠ row) : RngM P K w' b r n F left cnt := by
  obtain ⟨D, L, h1, h2, h3⟩ := h
  exact ⟨D, L, h1.kept hg hb hr, h2, h3⟩
theorem RngM.lt {P : Program} {K : TypeId} {w : World} {b r n cnt : Nat} {F : Key → Option Value} {left : Key → Bool} (h : RngM P K w b r n F left cnt) : r < w.heap.size := by
  obtain ⟨D, L, h1, h2, h3⟩ := h
  exact h1.lt
theorem RngM.not_own {P : Program} {K : TypeId} {w : World} {b r n cnt : Nat} {F : Key → Option Value} {left : Key → Bool} (h : RngM P K w b r n F left cnt) {base : Nat} {e : TypeId} {size k : Nat} {v : Value} {xs : List Value} (ho : w.ownsRow base e size v k xs) : some b ≠ v.ownBlock ∧ some r ≠ v.ownBlock := by
  obtain ⟨D, L, ⟨es, clock, since, seen, c0, hb, _, _, _, hr, _⟩, _⟩ := h
  rcases ho.2 with ⟨rfl, _⟩ | ⟨g, cap, cur, rfl, _, hg, _⟩
  · exact ⟨fun e => (by cases e), fun e => (by cases e)⟩
  · refine ⟨fun e => ?_, fun e => ?_⟩
    · injection e with e
      have e' : b = g := e
      subst e'; rw [hb] at hg; cases hg
    · injection e with e
      have e' : r = g := e
      subst e'; rw [hr] at hg; cases hg
theorem RngM.left_eq {P : Program} {K : TypeId} {w : World} {b r n cnt : Nat} {F : Key → Option Value} {left : Key → Bool} (h : RngM P K w b r n F left cnt) : w.rangeLeft b r = cnt := by
  obtain ⟨D, L, h1, _⟩ := h; exact h1.left_eq
/-- the polygons so far: a row of the call's own, and their points -/
def OutP (base : Nat) (wr : World) (u : Value) (os : List (List Pt)) : Prop :=
  ∃ hs : List PolH, wr.ownsRow base 53 1 u hs.length (hs.flatMap encPol) ∧ hs.length = os.length ∧ ∀ (i : Nat) (h : PolH) (o : List Pt), hs[i]? = some h → os[i]? = some o → wr.ownsRow base 60 2 (psl h) o.length (o.flatMap encPt)
theorem OutP.nil (base : Nat) (w : World) : OutP base w (.slice none 0 0) [] := ⟨[], World.ownsRow_nil _ _ _ _, rfl, fun i h o hh => by simp at hh⟩
theorem OutP.below {base : Nat} {wr w' : World} {u : Value} {os : List (List Pt)} (h : OutP base wr u os) (hb : Below wr.heap.size wr w') : OutP base w' u os := by
  obtain ⟨hs, h1, h2, h3⟩ := h
  exact ⟨hs, own_below h1 hb, h2, fun i h o hh ho => own_below (h3 i h o hh ho) hb⟩
theorem OutP.map {base b2 m nn : Nat} {wr w' : World} {u : Value} {os : List (List Pt)} {R : List Ck} (h : OutP base wr u os) (hC : CkM b2 wr m nn R) (hg : wr.grownBy w' (some m)) : OutP base w' u os := by
  obtain ⟨hs, h1, h2, h3⟩ := h
  exact ⟨hs, h1.kept hg (.inr (hC.nown h1)), h2, fun i h o hh ho => (h3 i h o hh ho).kept hg (.inr (hC.nown (h3 i h o hh ho)))⟩
theorem OutP.rd {base : Nat} {wr : World} {u : Value} {os : List (List Pt)} (h : OutP base wr u os) : RdPols wr u os := by
  obtain ⟨hs, h1, h2, h3⟩ := h
  exact ⟨hs, Rd.own encPol_len h1, h2, fun i h o hh ho => ⟨trivial, Rd.own encPt_len (h3 i h o hh ho)⟩⟩
theorem get_snocP {α β : Type} {hs : List α} {os : List β} {h : α} {o : β} (hl : hs.length = os.length) {i : Nat} {h' : α} {o' : β} (q1 : (hs ++ [h])[i]? = some h') (q2 : (os ++ [o])[i]? = some o') : (hs[i]? = some h' ∧ os[i]? = some o') ∨ (h' = h ∧ o' = o) := by
  by_cases hi : i < hs.length
  · rw [List.getElem?_append_left hi] at q1
    rw [List.getElem?_append_left (by omega)] at q2
    exact .inl ⟨q1, q2⟩
  · rw [List.getElem?_append_right (by omega)] at q1
    rw [List.getElem?_append_right (by omega)] at q2
    have e : i - hs.length = 0 := by
      have := (List.getElem?_eq_some_iff.1 q1).1
      simp at this; omega
    rw [e] at q1
    rw [show i - os.length = 0 by omega] at q2
    simp at q1 q2
    exact .inr ⟨q1.symm, q2.symm⟩
theorem OutP.push {base : Nat} {wr w' : World} {u u' : Value} {os : List (List Pt)} {hs : List PolH} {h : PolH} {o : List Pt} (h1 : wr.ownsRow base 53 1 u hs.length (hs.flatMap encPol)) (h2 : hs.length = os.length)
    (h3 : ∀ (i : Nat) (h : PolH) (o : List Pt), hs[i]? = some h → os[i]? = some o → wr.ownsRow base 60 2 (psl h) o.length (o.flatMap encPt)) (ho : wr.ownsRow base 60 2 (psl h) o.length (o.flatMap encPt))
    (hg : wr.grownBy w' u.ownBlock) (hown : w'.ownsRow base 53 1 u' (hs ++ [h]).length ((hs ++ [h]).flatMap encPol)) : OutP base w' u' (os ++ [o]) := by
  refine ⟨hs ++ [h], hown, by simp [h2], fun i h' o' q1 q2 => ?_⟩
  rcases get_snocP h2 q1 q2 with ⟨a1, a2⟩ | ⟨rfl, rfl⟩
  · exact (h3 i h' o' a1 a2).kept hg (own_two (h3 i h' o' a1 a2) h1 (by decide))
  · exact ho.kept hg (own_two ho h1 (by decide))
/-- what a trace of a region's cracks says -/
def IsTr (rows : List Reg.Row) (os : List (List Pt)) : Prop := ∃ cs : List Pt, cs.Pairwise ltP ∧ (∀ p, p ∈ cs ↔ ∃ h, (p, h) ∈ ckR rows) ∧ os = traceP cs (ckR rows)
theorem ck_near {rows : List Reg.Row} (hv : VReg rows) : ∀ c ∈ ckR rows, near5 c.1 ∧ 0 ≤ c.2 ∧ c.2 < 4 := fun c hc => by
  have h1 := ckR_crk hv c hc
  have hh := crk_h h1
  obtain ⟨⟨x, y⟩, h⟩ := c
  simp only at h1 hh ⊢
  have hS : cel rows (lcP (x, y) h) = true := by unfold crk at h1; simp at h1; exact h1.1.2
  unfold cel at hS
  obtain ⟨w, hw, e, hm⟩ := memC_iff.1 hS
  have a1 := hv.1 w hw
  have a2 : -4096 ≤ w.1 ∧ w.1 < 4096 := by have := a1.1; simpa [okC] using this
  have a3 := sepIn_mem (fine_sepIn.1 a1.2).1 hm
  refine ⟨?_, by omega, by omega⟩
  unfold near5
  rcases hh with rfl | rfl | rfl | rfl <;> simp [lcP] at e a3 ⊢ <;> omega
/-- the loop over the corners -/
structure TrI (rows : List Reg.Row) (ys : List Pt) (m n : Nat) (w : World) (A : Option Addr) (q cap B k : Nat) (u : Value) (wr : World) (Rk : List Ck) (os : List (List Pt)) (nn : Nat) : Prop where
  run : os ++ traceP (ys.drop k) Rk = traceP ys (ckR rows)
  ck : CkM m wr m nn Rk
  cnt : nn + Rk.length ≤ 2 * n
  sub : ∀ c ∈ Rk, c ∈ ckR rows
  len : Rk.length ≤ n
  out : OutP w.heap.size wr u os
  row : wr.ownsRow B 60 2 (.slice A q cap) q (ys.flatMap encPt)
  kin : Below w.heap.size w wr
  ol : os.length ≤ k
theorem TrI.below {rows : List Reg.Row} {ys : List Pt} {m n : Nat} {w : World} {A : Option Addr} {q cap B k : Nat} {u : Value} {wr w' : World} {Rk : List Ck} {os : List (List Pt)} {nn : Nat} (h : TrI rows ys m n w A q cap B k u wr Rk os nn) (hb : Below wr.heap.size wr w') : TrI rows ys m n w A q cap B k u w' Rk os nn :=
  ⟨h.run, h.ck.below hb, h.cnt, h.sub, h.len, h.out.below hb, own_below h.row hb, h.kin.trans (hb.mono h.kin.size), h.ol⟩
theorem trace_nil {p : Pt} {cs : List Pt} {R : List Ck} (h : hdR R p = []) : traceP (p :: cs) R = traceP cs R := by
  conv => lhs; unfold traceP
  rw [h]
theorem trace_cons {p : Pt} {cs : List Pt} {R : List Ck} {h : Int} {t : List Int} (e : hdR R p = h :: t) : traceP (p :: cs) R = (walkP R.length R p p h [p]).1 :: traceP cs (walkP R.length R p p h [p]).2 := by
  conv => lhs; unfold traceP
  rw [e]
set_option maxHeartbeats 8000000 in
theorem trace_any (s : Value) (rows : List Reg.Row) (w : World) (h : RdRows w s rows) (hv : VReg rows) (hT : (ckR rows).length ≤ 1000000) :
    Calls Tryz.prog 10 #[.agg #[s]] w fun e w' => (∃ u os, e = .returned u ∧ IsTr rows os ∧ RdPols w' u os) ∧ Below w.heap.size w w' := by
  have HV := Lib.hid hv
  have HR := Lib.hid h
  have hbd : RBd rows := ⟨by have := (vreg_len hv).1; omega, fun r hr => by have := (vreg_len hv).2 r hr; omega⟩
  have HBD := Lib.hid hbd
  have HVV := Lib.hid (rvalid_iff.2 hv)
  clear h hv hbd
  go_enter Tryz.func10, Tryz.ntmps10
  go_wp2_with fail
  obtain ⟨W1, hW1⟩ : ∃ W1, w.alloc (.cells #[s] 24) = W1 := ⟨_, rfl⟩
  have hb1 : Below w.heap.size w W1 := hW1 ▸ (Below.refl _ _).alloc (Nat.le_refl _) _
  have B1 : Blk W1 w.heap.size 24 #[s] := hW1 ▸ Blk.new _ _ _
  have hrd1 : RdReg W1 (.agg #[s]) rows := ⟨s, rfl, RdN.below HR.out hb1⟩
  rw [hW1]
  (go_at_call 27; (with_reducible refine (Kin.callK (W := W1) gRw (rvalid_is _ rows _ hrd1 HBD.out HVV.out)).mono ?_); rintro e w' ⟨z1, rfl, hz1, rfl⟩; skip)
  obtain ⟨W2, hW2⟩ : ∃ W2, z1.1 = W2 := ⟨_, rfl⟩
  rw [hW2] at hz1 ⊢
  have hb2 : Below w.heap.size w W2 := hb1.trans (hz1.mono hb1.size)
  have B2 := B1.below hz1
  have s_0 : W2.cell? ⟨w.heap.size, 0, none⟩ = some s := B2.cell 0
  have s_l := B2.lt
  have HB2 := Lib.hid hb2
  clear hW1 hb1 B1 hW2 hz1 hb2 B2 hrd1
  go_wp2_with fail
  (go_at_call 28; (with_reducible refine (Kin.callK (W := W2) gRw (collect_any s rows _ (RdN.below HR.out HB2.out) HV.out hT)).mono ?_); rintro e w' ⟨z3, ⟨m, rfl, hmz, hC⟩, hz3, rfl⟩; skip)
  obtain ⟨W3, hW3⟩ : ∃ W3, z3.1 = W3 := ⟨_, rfl⟩
  have hb3 := z3.2
  rw [hW3] at hC hb3 ⊢
  have HB3 := Lib.hid (HB2.out.trans (hb3.mono HB2.out.size))
  have hmw : w.heap.size ≤ m := Nat.le_trans HB2.out.size hmz
  obtain ⟨n, hn⟩ : ∃ n, (ckR rows).length = n := ⟨_, rfl⟩
  have HN := Lib.hid hn
  rw [hn] at hC hT
  have HC := Lib.hid hC
  have hml := hC.lt
  obtain ⟨F, hF⟩ := hC
  have HF := Lib.hid hF
  clear hW3 hz3 hb3 hF hn s_0 s_l
  go_wp2_with fail
  obtain ⟨w1, c1, hr1, HR0, hg1, hs1⟩ := HF.out.map.range ptKey (t := 62) (e := 66) Tryz.underlying62
  rw [hr1]
  obtain ⟨r, hr⟩ : ∃ r, W3.heap.size = r := ⟨_, rfl⟩
  have hwr : w.heap.size ≤ r := by rw [← hr]; exact HB3.out.size
  have hmr : m < r := by rw [← hr]; exact hml
  have HY := Lib.hid (show Below W3.heap.size W3 w1 from (Below.refl _ _).grown hg1 (Nat.le_refl _) (fun k e => by cases e))
  have HWR := Lib.hid hr
  rw [hr] at HR0 ⊢
  have HRR := Lib.hid HR0
  clear hr1 HR0 hg1 hs1 hr
  go_simp
  go_wp2_with fail
  have HKEY := Lib.hid (show ∀ c, wfK c → ((F c).isSome = true ↔ ∃ g, (c, g) ∈ ckR rows) from fun c hc => by
    have := HF.out.el c hc
    cases hv : F c with
    | none =>
      rw [hv] at this
      simp only at this
      constructor
      · intro e; cases e
      · rintro ⟨g, hg⟩
        have := hdR_mem.2 hg
        rename_i h0
        rw [h0] at this; cases this
    | some v =>
      rw [hv] at this
      simp only at this
      refine ⟨fun _ => ?_, fun _ => rfl⟩
      obtain ⟨x, l, e⟩ := List.exists_cons_of_ne_nil this.1
      exact ⟨x, hdR_mem.1 (by rw [e]; simp)⟩)
  go_loopw [4] (fun cv wr => ∃ (L : List Pt) (left : Key → Bool) (cnt : Nat), Hid (RngM Tryz.prog 60 wr m r n F left cnt) ∧ Hid (L.Nodup) ∧ Hid (∀ c, wfK c → (c ∈ L ↔ (F c).isSome = true ∧ left c = false)) ∧ Hid (∀ c ∈ L, wfK c) ∧ Hid (wr.ownsRow W3.heap.size 60 2 cv L.length (L.flatMap encPt)) ∧ ∃ y : Kin W3, y.1 = wr) (fun _ wr => wr.rangeLeft m r)
  case atStart =>
    refine ⟨[], _, _, HRR, Lib.hid List.nodup_nil, Lib.hid (fun c hc => ?_), Lib.hid (fun c hc => by simp at hc), Lib.hid (World.ownsRow_nil _ _ _ _), ⟨w1, HY.out⟩, rfl⟩
    constructor
    · intro e; simp at e
    · rintro ⟨h1, h2⟩; rw [h1] at h2; cases h2
  case round =>
    clear HRR
    obtain ⟨L, left, cnt, HRR, HND, HLM, HLW, HOL, y, rfl⟩ := hrel
    have hLn : L.length ≤ 1000000 := by
      have h1 := nodup_len L ((ckR rows).map (·.1)) HND.out (fun c hc => by
        obtain ⟨g, hg⟩ := (HKEY.out c (HLW.out c hc)).1 ((HLM.out c (HLW.out c hc)).1 hc).1
        exact List.mem_map.2 ⟨_, hg, rfl⟩)
      rw [List.length_map] at h1
      have := HN.out
      omega
    rcases HRR.out.next ptKey 0 with ⟨h0, hl0, hrun⟩ | ⟨c, v, w5, cnt5, hc, hlc, hFc, hrun, HR5, hlt5, hg5, hs5, hen5⟩
    · have HL0 := Lib.hid hl0
      obtain ⟨A, cap, rfl⟩ := own_slc HOL.out
      have hnear : ∀ c ∈ L, near6 c := fun c hc => by
        obtain ⟨g, hg⟩ := (HKEY.out c (HLW.out c hc)).1 ((HLM.out c (HLW.out c hc)).1 hc).1
        have := (ck_near HV.out _ hg).1
        unfold near5 at this; unfold near6; simp only at this; omega
      have HNE := Lib.hid hnear
      have HLL := Lib.hid (show ∀ c, c ∈ L ↔ ∃ g, (c, g) ∈ ckR rows from fun c => ⟨fun hc => (HKEY.out c (HLW.out c hc)).1 ((HLM.out c (HLW.out c hc)).1 hc).1, fun ⟨g, hg⟩ => by
        have hw : wfK c := near6_wf (by have := (ck_near HV.out _ hg).1; unfold near5 at this; unfold near6; simp only at this; omega)
        exact (HLM.out c hw).2 ⟨(HKEY.out c hw).2 ⟨g, hg⟩, HL0.out c hw⟩⟩)
      clear hnear hl0
      go_wp2_with fail
      (go_at_call 29; (refine (sort_corners W3.heap.size _ (.slice A L.length cap) L HNE.out HOL.out (by omega) y.2.size).mono ?_); rintro e W7 ⟨rfl, ys, hperm, hpw, ho7, hb7⟩)
      have hys : ys.Pairwise ltP := by
        have hnd := hperm.nodup_iff.2 HND.out
        refine (hpw.and hnd).imp fun {a b} hab => ?_
        obtain ⟨h1, h2⟩ := hab
        unfold ltP at h1 ⊢
        by_cases e : a.1 = b.1 ∧ a.2 = b.2
        · exact absurd (Prod.ext e.1 e.2) h2
        · omega
      have HYS := Lib.hid hys
      have HYM := Lib.hid (show ∀ p, p ∈ ys ↔ ∃ h, (p, h) ∈ ckR rows from fun p => (hperm.mem_iff).trans (HLL.out p))
      have hb37 : Below W3.heap.size W3 W7 := y.2.trans hb7
      have HC7 := Lib.hid (HC.out.below hb37)
      have HB7 := Lib.hid (show Below w.heap.size w W7 from HB3.out.trans (hb37.mono HB3.out.size))
      have hyl : ys.length = L.length := hperm.length_eq
      obtain ⟨q, hq⟩ : ∃ q, L.length = q := ⟨_, rfl⟩
      rw [hq] at hyl hLn ⊢
      rw [hyl, hq] at ho7
      have HQ := Lib.hid hyl
      have HO7 := Lib.hid ho7
      clear hperm hpw hys hb7 hb37 hyl hq ho7 HOL HRR HND HLM HLW HLL HNE HL0 hrun
      go_wp2_with fail
      have hI0 : TrI rows ys m n w A q cap W3.heap.size 0 (.slice none 0 0) W7 (ckR rows) [] n := ⟨rfl, HC7.out, by rw [HN.out]; omega, fun _ h => h, by rw [HN.out]; exact Nat.le_refl _, OutP.nil _ _, HO7.out, HB7.out, Nat.zero_le _⟩
      have HI0 := Lib.hid hI0
      clear hI0
      go_loopw [6, 28] (fun u i wr => ∃ (k : Nat) (Rk : List Ck) (os : List (List Pt)) (nn : Nat), k ≤ q ∧ i = .int .i64 k ∧ Hid (TrI rows ys m n w A q cap W3.heap.size k u wr Rk os nn)) (fun _ i _ => q - (intOf i).toNat)
      case atStart => exact ⟨0, _, _, _, Nat.zero_le _, rfl, HI0⟩
      case round =>
        clear HI0 HC7 HB7 HO7
        obtain ⟨k, Rk, os, nn, hk, rfl, HI⟩ := hrel
        by_cases hlt : k < q
        · obtain ⟨p, hp⟩ : ∃ p, ys[k]? = some p := ⟨_, List.getElem?_eq_getElem (by rw [HQ.out]; exact hlt)⟩
          obtain ⟨bX, offX, hXA, hbX, hcX⟩ := Rd.op (Rd.own' encPt_len (by decide) HI.out.row) k p hp
          subst hXA
          have x_0 : wr.cell? ⟨bX, offX + k * 2, none⟩ = some (.int .i64 p.1) := hcX k p hp 0 _ rfl
          have x_1 : wr.cell? ⟨bX, offX + k * 2 + 1, none⟩ = some (.int .i64 p.2) := hcX k p hp 1 _ rfl
          have hpn : near5 p := by
            obtain ⟨g, hg⟩ := (HYM.out p).1 (List.mem_of_getElem? hp)
            exact (ck_near HV.out _ hg).1
          have HPN := Lib.hid hpn
          have hpw : wfK p := near6_wf (by unfold near5 at hpn; unfold near6; omega)
          have HDR := Lib.hid (show ys.drop k = p :: ys.drop (k + 1) by
            have hk2 := (List.getElem?_eq_some_iff.1 hp)
            rw [List.drop_eq_getElem_cons hk2.1, hk2.2])
          have hC := HI.out.ck
          obtain ⟨F5, hF5⟩ := hC
          obtain ⟨A5, c5, hg5, _⟩ := hF5.look hpw
          obtain ⟨l5, hl5⟩ : ∃ l5, (hdR Rk p).length = l5 := ⟨_, rfl⟩
          have hlk := fun x => look_keep hF5 hpw ((Below.refl wr.heap.size wr).alloc (Nat.le_refl _) x) hg5 hl5
          have HL5 := Lib.hid hl5
          have hcnt := HI.out.cnt
          have hlen := HI.out.len
          have hol := HI.out.ol
          have hmb := HI.out.ck.lt
          clear hcX hp hpn hpw hF5 hg5 hl5 F5
          by_cases h0 : l5 = 0
          · subst h0
            have HNX := Lib.hid (trace_nil (cs := ys.drop (k + 1)) (List.eq_nil_of_length_eq_zero HL5.out))
            go_wp2_with fail
            have hb9 : Below wr.heap.size wr (wr.alloc (.cells #[.int .i64 p.1, .int .i64 p.2] 60)) := (Below.refl _ _).alloc (Nat.le_refl _) _
            have I9 := HI.out.below hb9
            refine ⟨⟨k + 1, Rk, os, nn, by omega, by go_num, Lib.hid ⟨?_, I9.ck, I9.cnt, I9.sub, I9.len, I9.out, I9.row, I9.kin, by omega⟩⟩, by simp [intOf]; omega⟩
            have := I9.run
            rw [HDR.out, HNX.out] at this
            exact this
          · obtain ⟨h1, t1, hh1⟩ : ∃ h1 t1, hdR Rk p = h1 :: t1 := List.exists_cons_of_ne_nil (fun e => h0 (by rw [← HL5.out, e]; rfl))
            have HH1 := Lib.hid hh1
            have HNX := Lib.hid (trace_cons (cs := ys.drop (k + 1)) hh1)
            have hpos : (0 : Int) < (l5 : Int) := by omega
            clear hh1 h0
            go_wp2_with fail
            obtain ⟨W8, hW8⟩ : ∃ W8, wr.alloc (.cells #[.int .i64 p.1, .int .i64 p.2] 60) = W8 := ⟨_, rfl⟩
            have hb8 : Below wr.heap.size wr W8 := hW8 ▸ (Below.refl _ _).alloc (Nat.le_refl _) _
            have I8 := HI.out.below hb8
            have HI8 := Lib.hid I8
            rw [hW8]
            clear hW8 hb8 x_0 x_1 hlk
            (go_at_call 31; (refine (walkC_any m _ m nn Rk p h1 t1 I8.ck HPN.out (Nat.le_of_lt I8.ck.lt) HH1.out (fun c hc => ck_near HV.out c (I8.sub c hc)) (by omega) (by omega)).mono ?_); rintro e W9 ⟨⟨A2, q2, c2, rfl, ho2, hq2⟩, ⟨nn9, hC9, hn9⟩, hg9⟩)
            obtain ⟨X, hX⟩ : ∃ X, walkP Rk.length Rk p p h1 [p] = X := ⟨_, rfl⟩
            have hXs := walkP_sub Rk.length Rk p p h1 [p]
            rw [hX] at ho2 hq2 hC9 hXs hn9
            have HX := Lib.hid hX
            have O9 := I8.out.map I8.ck hg9
            have row9 := I8.row.kept hg9 (.inr (I8.ck.nown I8.row))
            have kin9 : Below w.heap.size w W9 := I8.kin.grown hg9 I8.kin.size (fun k e => by injection e with e; omega)
            have ho2' := own_base ho2 I8.kin.size
            obtain ⟨hs, o1, o2, o3⟩ := O9
            have hhl : hs.length ≤ 1000000 := by omega
            have hw9 := kin9.size
            have HO1 := Lib.hid o1
            have HO2 := Lib.hid o2
            have HO3 := Lib.hid o3
            have HR9 := Lib.hid row9
            have HK9 := Lib.hid kin9
            have HP9 := Lib.hid (show W9.ownsRow w.heap.size 60 2 (psl ((A2, q2, c2) : PolH)) X.1.length (X.1.flatMap encPt) by rw [hq2]; exact ho2')
            have HC9 := Lib.hid hC9
            have HXS := Lib.hid hXs
            clear I8 hX hXs ho2 ho2' hq2 hC9 hg9 row9 kin9 o1 o2 o3
            go_wp2_with (at_builtin; refine Shut.out ?_)
            unfold Shut
            refine wpList_app _ rfl _ _ 30 rfl encPol_len (by decide) onePol (w.heap.size) 53 (.agg #[.slice none 0 0]) 24 infoPol rfl Tryz.underlying30 _ _ _ _ rfl (HO1.out.alloc _) _ _ _ rfl (rd_one _ encPol_len _ ((A2, q2, c2) : PolH) _ rfl) ?c1 (by decide) ?c2 ?_
            case c1 => (first | (simp only [List.length_append, List.length_cons, List.length_nil]; omega) | omega | (simp; omega))
            case c2 => exact lEw
            intro v1 w10 hown1 hg1 hbel1 hat1
            have g0 : Below W9.heap.size W9 (W9.alloc (.cells #[.slice A2 q2 c2] 53)) := (Below.refl _ _).alloc (Nat.le_refl _) _
            have O10 := OutP.push (h := ((A2, q2, c2) : PolH)) (o := X.1) (HO1.out.alloc (.cells #[.slice A2 q2 c2] 53)) HO2.out (fun i h o hh ho => own_below (HO3.out i h o hh ho) g0) (own_below HP9.out g0) hg1 hown1
            have C10 := (HC9.out.below g0).row (HO1.out.alloc (.cells #[.slice A2 q2 c2] 53)) (by decide) hg1
            have R10 := (own_below HR9.out g0).kept hg1 (own_two (own_below HR9.out g0) (HO1.out.alloc (.cells #[.slice A2 q2 c2] 53)) (by decide))
            have K10 : Below w.heap.size w w10 := (HK9.out.trans (g0.mono HK9.out.size)).trans hbel1
            have HO10 := Lib.hid O10
            have HC10 := Lib.hid C10
            have HR10 := Lib.hid R10
            have HK10 := Lib.hid K10
            clear g0 O10 C10 R10 K10 hown1 hg1 hbel1 hat1
            go_wp2_with fail
            refine ⟨⟨k + 1, X.2, os ++ [X.1], nn9, by omega, by go_num, Lib.hid ⟨?_, HC10.out, ?_, fun c hc => HI8.out.sub c (HXS.out.1 c hc), Nat.le_trans HXS.out.2 hlen, HO10.out, HR10.out, HK10.out, by rw [List.length_append]; simp; omega⟩⟩, by simp [intOf]; omega⟩
            · have := HI8.out.run
              rw [HDR.out, HNX.out, HX.out] at this
              rw [List.append_assoc]
              exact this
            · exact Nat.le_trans hn9 hcnt
        · have hkq : k = q := by omega
          subst hkq
          have HRUN := Lib.hid (show os = traceP ys (ckR rows) by
            have := HI.out.run
            rw [List.drop_eq_nil_of_le (by rw [HQ.out]; exact Nat.le_refl _)] at this
            simpa [traceP] using this)
          go_wp2_with fail
          go_ret
          exact ⟨⟨_, os, rfl, ⟨ys, HYS.out, HYM.out, HRUN.out⟩, HI.out.out.rd⟩, HI.out.kin⟩
    · unfold kv at hrun hen5
      have own5 := HOL.out.kept hg5 (.inr (fun e => ((HRR.out.not_own HOL.out).2) e.symm))
      have HO5 := Lib.hid own5
      have HR5h := Lib.hid HR5
      have HHC := Lib.hid hc
      have HLC := Lib.hid hlc
      have HFC := Lib.hid hFc
      have hb5 : Below W3.heap.size W3 w5 := y.2.grown hg5 y.2.size (fun k e => by injection e with e; have := HWR.out; omega)
      have HB5 := Lib.hid hb5
      have hsz5 : W3.heap.size ≤ w5.heap.size := hb5.size
      have HLT := Lib.hid (show cnt5 < y.1.rangeLeft m r by rw [HRR.out.left_eq]; exact hlt5)
      clear own5 HR5 hc hlc hFc hg5 hlt5 hb5
      go_wp2_with (at_builtin; refine Shut.out ?_)
      unfold Shut
      refine wpList_app _ rfl _ _ 51 rfl encPt_len (by decide) oneP (W3.heap.size) 60 (.agg #[.int .i64 0, .int .i64 0]) 16 infoPt2 rfl Tryz.underlying51 _ _ _ _ rfl ((HO5.out.alloc _).alloc _) _ _ _ rfl (rd_one _ encPt_len _ c _ rfl (by rw [World.size_alloc, hs5])) ?c1 (by decide) ?c2 ?_
      case c1 => (first | (simp only [List.length_append, List.length_cons, List.length_nil]; omega) | omega | (simp; omega))
      case c2 => exact lEw
      intro v1 w6 hown1 hg1 hbel1 hat1
      obtain ⟨q1, hq1⟩ : ∃ q1, (L ++ [c]).length = q1 := ⟨_, rfl⟩
      have g56 : w5.grownBy ((w5.alloc (.cells #[.int .i64 c.1, .int .i64 c.2] 60)).alloc (.cells #[.int .i64 c.1, .int .i64 c.2] 60)) none := below_grownBy (((Below.refl _ _).alloc (Nat.le_refl _) _).alloc (le_alloc (Nat.le_refl _) _) _)
      have R6 := (HR5h.out.kept g56 (by intro e; cases e) (by intro e; cases e))
      have own6 := ((HO5.out.alloc (.cells #[.int .i64 c.1, .int .i64 c.2] 60)).alloc (.cells #[.int .i64 c.1, .int .i64 c.2] 60))
      have R7 := R6.kept hg1 (R6.not_own own6).1 (R6.not_own own6).2
      have HR7 := Lib.hid R7
      have HO7 := Lib.hid hown1
      have HB7 := Lib.hid (show Below W3.heap.size W3 w6 from ((HB5.out.alloc HB5.out.size _).alloc (Nat.le_trans HB5.out.size (le_alloc (Nat.le_refl _) _)) _).trans hbel1)
      clear hown1 hg1 hbel1 hat1 g56 R6 own6 R7 hq1 q1
      go_wp2_with fail
      refine ⟨⟨L ++ [c], _, _, HR7, Lib.hid ?_, Lib.hid (fun d hd => ?_), Lib.hid (fun d hd => ?_), HO7, ⟨w6, HB7.out⟩, rfl⟩, ?_⟩
      · rw [List.nodup_append]
        refine ⟨HND.out, by simp, fun a ha b hb e => ?_⟩
        simp at hb
        subst hb
        rw [e] at ha
        have := ((HLM.out b HHC.out).1 ha).2
        rw [HLC.out] at this; cases this
      · rw [List.mem_append, HLM.out d hd, List.mem_singleton]
        by_cases e : d = c
        · subst e
          simp [HFC.out]
        · simp [e]
      · rcases List.mem_append.1 hd with h1 | h1
        · exact HLW.out d h1
        · simp at h1; subst h1; exact HHC.out
      · rw [HR7.out.left_eq]; exact HLT.out
end Go.Proofs.YtneelidbgigehaaGreat
/- What the top statements ask of the boundary of a small region, in plain words. -/
namespace Go.Proofs.YtneelidbgigehaaGreat
set_option linter.unusedSimpArgs false
set_option linter.unusedVariables false
set_option maxRecDepth 100000
open Trc Runs Reg Ras
theorem lc_inj {p p' : Pt} {h : Int} (e : lcP p h = lcP p' h) : p = p' := by
  unfold lcP at e
  (repeat' split at e) <;> (injection e with e1 e2; exact Prod.ext (by omega) (by omega))
/-- a region has at most four cracks a cell -/
theorem ck_len {rows : List Reg.Row} (hv : VReg rows) : ((ckR rows).length : Int) ≤ 4 * cntR rows := by
  have hr := rvalid_iff.2 hv
  have h1 : ((ckR rows).map fun c => (lcP c.1 c.2, c.2)).Nodup := by
    unfold List.Nodup
    rw [List.pairwise_map]
    refine (ckR_nodup hv).imp fun {a b} hab e => hab ?_
    injection e with e1 e2
    rw [e2] at e1
    exact Prod.ext (lc_inj e1) e2
  have h2 := nodup_len _ ((cellsR rows).flatMap fun c => [(c, (0 : Int)), (c, 1), (c, 2), (c, 3)]) h1 (fun x hx => by
    obtain ⟨c, hc, rfl⟩ := List.mem_map.1 hx
    have hk := ckR_crk hv c hc
    have hh := crk_h hk
    have hS : cel rows (lcP c.1 c.2) = true := by unfold crk at hk; simp at hk; exact hk.1.2
    refine List.mem_flatMap.2 ⟨lcP c.1 c.2, mem_cellsR.2 ⟨hr, hS⟩, ?_⟩
    rcases hh with e | e | e | e <;> rw [e] <;> simp)
  have h3 : ∀ l : List (Int × Int), (l.flatMap fun c => [(c, (0 : Int)), (c, 1), (c, 2), (c, 3)]).length = 4 * l.length := fun l => by
    induction l with
    | nil => rfl
    | cons c l ih => rw [List.flatMap_cons, List.length_append, ih, List.length_cons]; simp; omega
  rw [List.length_map, h3] at h2
  have := cellsR_len rows
  omega
/-- a region's bounds, as nearby asks for them -/
def nearR (rows : List Reg.Row) : Bool := decide (cntR rows ≤ 200) && decide (-1000 ≤ (boxR rows).1.1) && decide (-1000 ≤ (boxR rows).1.2) && decide ((boxR rows).2.1 ≤ 1000) && decide ((boxR rows).2.2 ≤ 1000)
/-- sorted lists of corners with the same members are equal -/
theorem ltP_ext : ∀ {a b : List Pt}, a.Pairwise ltP → b.Pairwise ltP → (∀ p, p ∈ a ↔ p ∈ b) → a = b
  | [], [], _, _, _ => rfl
  | [], q :: b, _, _, h => by have := (h q).2 (by simp); simp at this
  | p :: a, [], _, _, h => by have := (h p).1 (by simp); simp at this
  | p :: a, q :: b, ha, hb, h => by
    have ha1 := List.pairwise_cons.1 ha
    have hb1 := List.pairwise_cons.1 hb
    have e : p = q := by
      rcases List.mem_cons.1 ((h p).1 (by simp)) with e | e
      · exact e
      · rcases List.mem_cons.1 ((h q).2 (by simp)) with e2 | e2
        · exact e2.symm
        · have l1 := hb1.1 p e
          have l2 := ha1.1 q e2
          unfold ltP at l1 l2; omega
    subst e
    have irr : ∀ r, ltP p r → r ≠ p := fun r hr e => by subst e; unfold ltP at hr; omega
    rw [ltP_ext ha1.2 hb1.2 fun r => ⟨fun hr => ?_, fun hr => ?_⟩]
    · rcases List.mem_cons.1 ((h r).1 (List.mem_cons_of_mem _ hr)) with e | e
      · exact absurd e (irr r (ha1.1 r hr))
      · exact e
    · rcases List.mem_cons.1 ((h r).2 (List.mem_cons_of_mem _ hr)) with e | e
      · exact absurd e (irr r (hb1.1 r hr))
      · exact e
end Go.Proofs.YtneelidbgigehaaGreat

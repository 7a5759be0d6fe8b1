/- Chain of the chapter, walked. -/
import Derived.Test.YteadnlodccnfcaaCtrChV
namespace Go.Proofs.Yteadnlodccnfcaa
set_option linter.unusedSimpArgs false
set_option linter.unusedVariables false
set_option maxRecDepth 100000
open Go.RowKit Planar
attribute [local go_sem] Kin.cell Kin.frozen Kin.lt0 Kin.lt1 Kin.lt2 Kin.lt3 run_mkf
theorem leastR_is (v : Value) (gd n : Nat) (l : List Sg) (dn : List Bool) (st : Bool) (p : Pt) (w : World) (hl : l.length = n) (h : Rd 4 encSg w v l) (hd : Rd 1 encB w (.slice (some ⟨gd, 0, none⟩) n n) dn) (hdl : dn.length = n) (hn : n ≤ 1000000000) :
    Calls Try.prog 38 #[v, .slice (some ⟨gd, 0, none⟩) n n, .bool st, .agg #[.int .i64 p.1, .int .i64 p.2]] w fun e w' => (∃ r, e = .returned (.int .i64 r) ∧ LeastP l dn st p l.length r) ∧ Below w.heap.size w w' :=
  leastR_any v _ l dn st p w h hd (by omega) (by omega)
theorem leastR_0 (v : Value) (gd n : Nat) (l : List Sg) (dn : List Bool) (w : World) (hl : l.length = n) (h : Rd 4 encSg w v l) (hd : Rd 1 encB w (.slice (some ⟨gd, 0, none⟩) n n) dn) (hdl : dn.length = n) (hn : n ≤ 1000000000) :
    Calls Try.prog 38 #[v, .slice (some ⟨gd, 0, none⟩) n n, .bool false, .agg #[.int .i64 0, .int .i64 0]] w fun e w' => (∃ r, e = .returned (.int .i64 r) ∧ LeastP l dn false (0, 0) l.length r) ∧ Below w.heap.size w w' :=
  leastR_is v gd n l dn false (0, 0) w hl h hd hdl hn
theorem balancedR_is {b : Bool} (v : Value) (l : List Sg) (w : World) (h : Rd 4 encSg w v l) (hl : l.length ≤ 1000000000) (hb : balB l = b) :
    Calls Try.prog 18 #[v] w fun e w' => e = .returned (.bool b) ∧ Below w.heap.size w w' := by subst hb; exact balancedR_any v l w h hl
/-- what stands at the inner loop's head -/
def AtP (l : List Sg) (n : Nat) (dn : List Bool) (R : List Sg) (p : Pt) (r : Int) : Prop :=
  (r = -1 ∧ ends R p = []) ∨ ∃ (i : Nat) (s : Sg), r = (i : Int) ∧ i < n ∧ l[i]? = some s ∧ dn[i]? = some false ∧ full s = true ∧ s.1 = p ∧ ∃ t, ends R p = s.2 :: t
structure InnP (l : List Sg) (n : Nat) (R0 : List Sg) (f : Pt) (dn : List Bool) (R : List Sg) (p : Pt) (acc : List Pt) (r : Int) : Prop where
  rem : Rem l dn R
  at_ : AtP l n dn R p r
  walk : walkP R0 f f = (acc ++ (walkP R f p).1, (walkP R f p).2)
  len : acc.length + R.length = R0.length
  dl : dn.length = n
structure OutP (l : List Sg) (n : Nat) (RA : List Sg) (dn : List Bool) (R : List Sg) (C : List (List Pt)) (r : Int) : Prop where
  rem : Rem l dn R
  lst : LeastP l dn false (0, 0) l.length r
  chain : C ++ chainP R = chainP RA
  len : C.length + R.length ≤ RA.length
  dl : dn.length = n
theorem done_next {l : List Sg} {n : Nat} {R0 : List Sg} {f : Pt} {dn : List Bool} {R : List Sg} {acc : List Pt} {i : Nat} {s : Sg} {r : Int} (h : InnP l n R0 f dn R s.1 acc (i : Int)) (hs : l[i]? = some s) (hd : dn[i]? = some false) (hf : full s = true) {t : List Pt} (he : ends R s.1 = s.2 :: t) (hb : s.2 ≠ f) (hr : LeastP l (dn.set i true) true s.2 l.length r) (hl : l.length = n) :
    InnP l n R0 f (dn.set i true) (pop R s.1) s.2 (acc ++ [s.1]) r := by
  have h1 : Rem l (dn.set i true) (pop R s.1) := h.rem.mark hs hd hf he
  refine ⟨h1, ?_, ?_, ?_, by rw [List.length_set]; exact h.dl⟩
  · have := h1.leastAt hr
    rw [hl] at this
    exact this
  · rw [h.walk, walk_on he hb, List.append_assoc]; rfl
  · have := pop_len he
    have := h.len
    rw [List.length_append, List.length_singleton]; omega
theorem outp_next {l : List Sg} {n : Nat} {RA R R2 : List Sg} {dn dn2 : List Bool} {C : List (List Pt)} {acc : List Pt} {r0 r : Int} {s : Sg} {t : List Sg} {f : Pt} (h : OutP l n RA dn R C r0) (hR : R = s :: t) (hf : s.1 = f) (hw : walkP R f f = (acc, R2)) (h2 : Rem l dn2 R2) (hr : LeastP l dn2 false (0, 0) l.length r) (hd : dn2.length = n) : OutP l n RA dn2 R2 (C ++ [acc]) r := by
  subst hf
  have e1 : chainP R = acc :: chainP R2 := by
    rw [hR, chain_cons, ← hR, hw]
  have e2 : R2.length < R.length := by
    have h3 : (walkP R s.1 s.1).2.length < R.length := by rw [hR]; exact walk_lt (ends_head s t)
    rw [hw] at h3; exact h3
  refine ⟨h2, hr, ?_, ?_, hd⟩
  · rw [List.append_assoc, List.singleton_append, ← e1]; exact h.chain
  · have := h.len
    rw [List.length_append, List.length_singleton]; omega
theorem lenS_thr {D : Nat} {y0 w : World} {gd n : Nat} {dn : List Bool} {s : Value} {xs : List (List Pt)} {v2 : Value} {acc : List Pt} (h : Thr D y0 w gd n dn s xs v2 acc) : lenS s = xs.length ∧ lenS v2 = acc.length := by
  obtain ⟨a1, a2, a3, a4, hs, h1, h2, h3, h4, h5, h6⟩ := h
  exact ⟨by rw [lenS_own h1]; exact h2.1, lenS_own h6⟩
theorem Thr.pts {D : Nat} {y0 w : World} {gd n : Nat} {dn : List Bool} {s : Value} {xs : List (List Pt)} {v2 : Value} {acc : List Pt} (h : Thr D y0 w gd n dn s xs v2 acc) : w.ownsRow y0.heap.size 36 2 v2 acc.length (acc.flatMap encPt) := by
  obtain ⟨a1, a2, a3, a4, hs, h1, h2, h3, h4, h5, h6⟩ := h
  exact h6
theorem Thr.cell {D : Nat} {y0 w : World} {gd n : Nat} {dn : List Bool} {s : Value} {xs : List (List Pt)} {v2 : Value} {acc : List Pt} (h : Thr D y0 w gd n dn s xs v2 acc) {i : Nat} (hi : i < n) : (∃ u, w.cell? ⟨gd, i, none⟩ = some u) ∧ w.frozen? ⟨gd, i, none⟩ = false ∧ gd < w.heap.size :=
  ⟨own_some h.1 i (by omega), h.1.frozenAt _, (h.1.lt gd rfl).2⟩
set_option maxHeartbeats 16000000 in
theorem chainR_any (v : Value) (l : List Sg) (w : World) (h : Rd 4 encSg w v l) (hw : ∀ s ∈ l, wfS s) :
    Calls Try.prog 15 #[v] w fun e w' => (∃ u, e = .returned (.tuple #[u, .int .i64 (chErr l)]) ∧ RdPols w' u (chLst l)) ∧ Below w.heap.size w w' := by
  have HWF := Lib.hid hw
  obtain ⟨A, capA, rfl, hcapA, hopA⟩ := h.open_
  have HA := Lib.hid hopA
  have HLA := Lib.hid h
  clear hopA h
  obtain ⟨n, hL⟩ : ∃ n, l.length = n := ⟨_, rfl⟩
  have HL := Lib.hid hL
  by_cases hlim : n ≤ 8192
  · rw [hL] at hcapA ⊢
    have HRL := Lib.hid (show Rd 4 encSg w (.slice A n capA) l by have := HLA.out; rwa [hL] at this)
    clear hL hw HLA
    go_enter Try.func15, Try.ntmps15
    go_wp2_with fail
    go_loopw [4] (fun i wr => ∃ k : Nat, k ≤ n ∧ i = .int .i64 k ∧ Hid (validS (l.take k) = true) ∧ ∃ y : Kin w, y.1 = wr) (fun i _ => n - (intOf i).toNat)
    case atStart => exact ⟨0, Nat.zero_le _, rfl, Lib.hid rfl, ⟨w, Below.refl _ _⟩, rfl⟩
    case round =>
      obtain ⟨k, hk, rfl, HV, y, rfl⟩ := hrel
      by_cases hlt : k < n
      · obtain ⟨s, hs⟩ : ∃ el_, (l)[k]? = some el_ := ⟨_, List.getElem?_eq_getElem (by first | exact (by rw [HL.out]; exact hlt) | omega)⟩
        obtain ⟨bA, offA, rfl, hbA, hcA⟩ := HA.out (k) _ hs
        have s_0 : w.cell? ⟨bA, offA + k * 4, none⟩ = some (.int .i64 s.1.1) := by exact hcA (k) _ hs 0 _ rfl
        have s_1 : w.cell? ⟨bA, offA + k * 4 + 1, none⟩ = some (.int .i64 s.1.2) := by exact hcA (k) _ hs 1 _ rfl
        have s_2 : w.cell? ⟨bA, offA + k * 4 + 2, none⟩ = some (.int .i64 s.2.1) := by exact hcA (k) _ hs 2 _ rfl
        have s_3 : w.cell? ⟨bA, offA + k * 4 + 3, none⟩ = some (.int .i64 s.2.2) := by exact hcA (k) _ hs 3 _ rfl
        have hbA2 : bA < w.heap.size + 1 := by omega
        have HAc := Lib.hid hcA
        have Hs := Lib.hid hs
        clear hs hcA
        have s_2' : w.cell? ⟨bA, offA + (k * 4 + 2), none⟩ = some (.int .i64 s.2.1) := by rw [← Nat.add_assoc]; exact s_2
        have s_3' : w.cell? ⟨bA, offA + (k * 4 + 2) + 1, none⟩ = some (.int .i64 s.2.2) := by rw [← Nat.add_assoc]; exact s_3
        have HVT := Lib.hid (validS_take Hs.out)
        go_wp2_with fail
        rcases hv1 : vld s.1 with _ | _
        · have HB1 := Lib.hid (validS_not (l := l) (k := k + 1) (by rw [HVT.out, hv1]; simp))
          (go_at_call 29; (with_reducible refine (Kin.callK (W := w) (by repeat (first | with_reducible (first | exact blA | exact blB | refine blC _ ?_ | refine blD ?_ ?_ _ | refine blE ?_ | refine blF _ ?_ | refine blG ?_ _ | refine blH ?_ | refine blI ?_ ?_ _) | (simp only [World.size_alloc]; omega) | (simp <;> omega))) (vldR_is s.1 _ hv1)).mono ?_); rintro e w' ⟨z1, rfl, hz1, rfl⟩; skip)
          have HE1 := Lib.hid (show chErr l = 8 by unfold chErr; rw [if_neg (by have := HL.out; omega), HB1.out]; rfl)
          have HE2 := Lib.hid (show chLst l = [] by unfold chLst; rw [HE1.out]; rfl)
          clear hv1 hz1
          go_wp2_with fail
          go_ret2
          rw [HE1.out, HE2.out]
          exact ⟨⟨_, rfl, RdN.nil⟩, z1.2⟩
        · (go_at_call 29; (with_reducible refine (Kin.callK (W := w) (by repeat (first | with_reducible (first | exact blA | exact blB | refine blC _ ?_ | refine blD ?_ ?_ _ | refine blE ?_ | refine blF _ ?_ | refine blG ?_ _ | refine blH ?_ | refine blI ?_ ?_ _) | (simp only [World.size_alloc]; omega) | (simp <;> omega))) (vldR_is s.1 _ hv1)).mono ?_); rintro e w' ⟨z1, rfl, hz1, rfl⟩; skip)
          have HV1 := Lib.hid hv1
          clear hv1 hz1
          go_wp2_with fail
          rcases hv2 : vld s.2 with _ | _
          · have HB1 := Lib.hid (validS_not (l := l) (k := k + 1) (by rw [HVT.out, hv2]; simp))
            (go_at_call 29; (with_reducible refine (Kin.callK (W := w) (by repeat (first | with_reducible (first | exact blA | exact blB | refine blC _ ?_ | refine blD ?_ ?_ _ | refine blE ?_ | refine blF _ ?_ | refine blG ?_ _ | refine blH ?_ | refine blI ?_ ?_ _) | (simp only [World.size_alloc]; omega) | (simp <;> omega))) (vldR_is s.2 _ hv2)).mono ?_); rintro e w' ⟨z2, rfl, hz2, rfl⟩; skip)
            have HE1 := Lib.hid (show chErr l = 8 by unfold chErr; rw [if_neg (by have := HL.out; omega), HB1.out]; rfl)
            have HE2 := Lib.hid (show chLst l = [] by unfold chLst; rw [HE1.out]; rfl)
            clear hv2 hz2
            go_wp2_with fail
            go_ret2
            rw [HE1.out, HE2.out]
            exact ⟨⟨_, rfl, RdN.nil⟩, z2.2⟩
          · have HV2 := Lib.hid (show validS (l.take (k + 1)) = true by rw [HVT.out, HV.out, HV1.out, hv2]; rfl)
            (go_at_call 29; (with_reducible refine (Kin.callK (W := w) (by repeat (first | with_reducible (first | exact blA | exact blB | refine blC _ ?_ | refine blD ?_ ?_ _ | refine blE ?_ | refine blF _ ?_ | refine blG ?_ _ | refine blH ?_ | refine blI ?_ ?_ _) | (simp only [World.size_alloc]; omega) | (simp <;> omega))) (vldR_is s.2 _ hv2)).mono ?_); rintro e w' ⟨z2, rfl, hz2, rfl⟩; skip)
            clear hv2 hz2
            go_wp2_with fail
            refine ⟨⟨k + 1, by omega, by go_num, HV2, z2, rfl⟩, by simp [intOf]; omega⟩
      · have hkn : n = k := by omega
        subst hkn
        have HVA := Lib.hid (show validS l = true by have := HV.out; rwa [List.take_of_length_le (by rw [HL.out]; exact Nat.le_refl _)] at this)
        have hry := HRL.out.below y.2
        have hl9 : l.length ≤ 1000000000 := by rw [HL.out]; omega
        go_wp2_with fail
        rcases hbal : balB l with _ | _
        · (go_at_call 18; (with_reducible refine (Kin.callK (W := w) (by repeat (first | with_reducible (first | exact blA | exact blB | refine blC _ ?_ | refine blD ?_ ?_ _ | refine blE ?_ | refine blF _ ?_ | refine blG ?_ _ | refine blH ?_ | refine blI ?_ ?_ _) | (simp only [World.size_alloc]; omega) | (simp <;> omega))) (balancedR_is _ l _ hry hl9 hbal)).mono ?_); rintro e w' ⟨z1, rfl, hz1, rfl⟩; skip)
          have HE1 := Lib.hid (show chErr l = 12 by unfold chErr; rw [if_neg (by have := HL.out; omega), HVA.out, hbal]; rfl)
          have HE2 := Lib.hid (show chLst l = [] by unfold chLst; rw [HE1.out]; rfl)
          clear hbal hz1 hry
          go_wp2_with fail
          go_ret2
          rw [HE1.out, HE2.out]
          exact ⟨⟨_, rfl, RdN.nil⟩, z1.2⟩
        · (go_at_call 18; (with_reducible refine (Kin.callK (W := w) (by repeat (first | with_reducible (first | exact blA | exact blB | refine blC _ ?_ | refine blD ?_ ?_ _ | refine blE ?_ | refine blF _ ?_ | refine blG ?_ _ | refine blH ?_ | refine blI ?_ ?_ _) | (simp only [World.size_alloc]; omega) | (simp <;> omega))) (balancedR_is _ l _ hry hl9 hbal)).mono ?_); rintro e w' ⟨z1, rfl, hz1, rfl⟩; skip)
          have HE1 := Lib.hid (show chErr l = 0 by unfold chErr; rw [if_neg (by have := HL.out; omega), HVA.out, hbal]; rfl)
          have HE2 := Lib.hid (show chLst l = chainP (sortS l) by unfold chLst; rw [HE1.out]; rfl)
          have hrl := sortS_len l
          obtain ⟨RA, hRA⟩ : ∃ RA, sortS l = RA := ⟨_, rfl⟩
          have HRA := Lib.hid hRA
          rw [hRA, HL.out] at hrl
          have hrem : Rem l (List.replicate n false) RA := by
            refine ⟨hRA ▸ sortS_srt l, ?_⟩
            have h1 := rem_start l
            rw [HL.out] at h1
            rw [h1, ← hRA]
            exact sortS_perm l
          have HREM := Lib.hid hrem
          clear hbal hz1 hry hRA hrem
          go_wp2_with (at_make; refine wpList_mk _ rfl _ _ 61 rfl encB_len (by decide) false w.heap.size 4 (.bool false) 1 rfl infoB Try.underlying61 .i64 .i64 _ _ (n) rfl rfl (by omega) (by omega) (by omega) (by decide) (by repeat (first | with_reducible exact Nat.le_refl _ | assumption | with_reducible refine le_alloc ?_ _ | with_reducible refine le_drew ?_ | with_reducible refine Kin.le _ ?_ | assumption | omega | (simp only [World.size_alloc]; omega))) ?_; intro w1 hmk hmb hmlt; (obtain ⟨y, rfl⟩ : ∃ y : Kin w, y.1 = w1 := ⟨⟨w1, Below.trans (by repeat (first | with_reducible (first | exact blA | exact blB | refine blC _ ?_ | refine blD ?_ ?_ _ | refine blE ?_ | refine blF _ ?_ | refine blG ?_ _ | refine blH ?_ | refine blI ?_ ?_ _) | (simp only [World.size_alloc]; omega) | (simp <;> omega))) (hmb.mono (by repeat (first | with_reducible exact Nat.le_refl _ | assumption | with_reducible refine le_alloc ?_ _ | with_reducible refine le_drew ?_ | with_reducible refine Kin.le _ ?_ | assumption | omega | (simp only [World.size_alloc]; omega))))⟩, rfl⟩); (have HMK := Lib.hid hmk; clear hmk); clear hmb)
          obtain ⟨gd, hgd⟩ : ∃ gd, z1.1.heap.size = gd := ⟨_, rfl⟩
          have hwgd : w.heap.size ≤ gd := by rw [← hgd]; exact z1.2.size
          rw [hgd] at HMK hmlt ⊢
          obtain ⟨y0, rfl⟩ : ∃ y0 : Kin w, y0 = y := ⟨y, rfl⟩
          have HT0 := Lib.hid (Thr.start HMK.out hwgd)
          have hry := HRL.out.below y0.2
          have hrd : Rd 1 encB y0.1 (.slice (some ⟨gd, 0, none⟩) n n) (List.replicate n false) := Rd.own' encB_len (by decide) HMK.out
          clear hgd HMK
          (go_at_call 38; (with_reducible refine (Kin.callK (W := w) (by repeat (first | with_reducible (first | exact blA | exact blB | refine blC _ ?_ | refine blD ?_ ?_ _ | refine blE ?_ | refine blF _ ?_ | refine blG ?_ _ | refine blH ?_ | refine blI ?_ ?_ _) | (simp only [World.size_alloc]; omega) | (simp <;> omega))) (leastR_0 _ gd n l _ _ HL.out hry hrd (by simp) (by omega))).mono ?_); rintro e w' ⟨z2, ⟨r, rfl, hr⟩, hz2, rfl⟩; skip)
          have HO0 := Lib.hid (show OutP l n RA (List.replicate n false) RA [] r from ⟨HREM.out, hr, rfl, by simp, by simp⟩)
          have HT2 := Lib.hid (HT0.out.below hz2)
          clear hry hrd hr hz2 HT0
          go_wp2_with fail
          go_loopw [5, 7] (fun sv av wr => ∃ (r : Int) (dn : List Bool) (R : List Sg) (C : List (List Pt)), av = .int .i64 r ∧ Hid (Thr w.heap.size y0.1 wr gd n dn sv C (.slice none 0 0) []) ∧ Hid (OutP l n RA dn R C r) ∧ ∃ y : Kin w, y.1 = wr) (fun sv _ _ => n + 1 - lenS sv)
          case atStart => exact ⟨r, _, _, _, rfl, HT2, HO0, z2, rfl⟩
          case round =>
            clear HT2 HO0
            obtain ⟨r, dn, R, C, rfl, HT, HO, y, rfl⟩ := hrel
            have hw0 : y0.1.heap.size ≤ y.1.heap.size := HT.out.2.2.2.1.size
            have hwy : w.heap.size ≤ y0.1.heap.size := y0.2.size
            rcases HO.out.rem.least HO.out.lst with ⟨rfl, hR⟩ | ⟨i, s, rfl, hi, hs, hd, hf, t, hR⟩
            · have HC := Lib.hid (show C = chainP RA by rw [← HO.out.chain, hR, chain_nil, List.append_nil])
              clear hR
              go_wp2_with fail
              go_ret2
              rw [HE1.out, HE2.out, HRA.out, ← HC.out]
              exact ⟨⟨_, rfl, HT.out.rd⟩, y.2⟩
            · have hii : ¬ ((i : Int) < 0) := by omega
              have hin : i < n := by rw [← HL.out]; exact hi
              obtain ⟨bA, offA, rfl, hbA, hcA⟩ := Rd.op HRL.out i s hs
              have s_0 : w.cell? ⟨bA, offA + i * 4, none⟩ = some (.int .i64 s.1.1) := hcA i s hs 0 _ rfl
              have s_1 : w.cell? ⟨bA, offA + i * 4 + 1, none⟩ = some (.int .i64 s.1.2) := hcA i s hs 1 _ rfl
              have HAC := Lib.hid hcA
              have hRlen : R.length ≤ n := by
                have := HO.out.len
                omega
              have hCl : C.length + R.length ≤ n := by
                have := HO.out.len
                omega
              have HRH := Lib.hid hR
              have HI0 := Lib.hid (show InnP l n R s.1 dn R s.1 [] (i : Int) from ⟨HO.out.rem, .inr ⟨i, s, rfl, hin, hs, hd, hf, rfl, _, by rw [hR]; exact ends_head s t⟩, by rfl, by simp, HO.out.dl⟩)
              clear hs hd hf hR hcA
              go_wp2_with fail
              obtain ⟨y5, hy5⟩ : ∃ y5 : Kin w, y5.1 = y.1.alloc (.cells #[.int .i64 s.1.1, .int .i64 s.1.2] 36) := ⟨⟨y.1.alloc _, (by repeat (first | with_reducible (first | exact blA | exact blB | refine blC _ ?_ | refine blD ?_ ?_ _ | refine blE ?_ | refine blF _ ?_ | refine blG ?_ _ | refine blH ?_ | refine blI ?_ ?_ _) | (simp only [World.size_alloc]; omega) | (simp <;> omega)))⟩, rfl⟩
              have B5 := Blk.new y.1 36 #[.int .i64 s.1.1, .int .i64 s.1.2]
              have T5 := HT.out.below ((Below.refl _ _).alloc (Nat.le_refl _) (.cells #[.int .i64 s.1.1, .int .i64 s.1.2] 36))
              obtain ⟨g, hg⟩ : ∃ g, y.1.heap.size = g := ⟨_, rfl⟩
              rw [← hy5, hg] at B5
              rw [← hy5] at T5
              rw [← hy5, hg]
              have hgb : y0.1.heap.size ≤ g := by rw [← hg]; exact hw0
              obtain ⟨f, hfd⟩ : ∃ f, s.1 = f := ⟨_, rfl⟩
              rw [hfd] at B5 HI0 ⊢
              have HB5 := Lib.hid B5
              have HT5 := Lib.hid T5
              have HFD := Lib.hid hfd
              clear hy5 hg B5 T5 HT hfd
              have hlenS := lenS_own HT5.out.2.2.2.2.choose_spec.1
              have hhs := HT5.out.2.2.2.2.choose_spec.2.1.1
              rw [hhs] at hlenS
              have HLS := Lib.hid hlenS
              clear hlenS hhs
              go_loopw [7, 9] (fun av pv wr => ∃ (r : Int) (dn : List Bool) (R' : List Sg) (p : Pt) (acc : List Pt), av = .int .i64 r ∧ Hid (Thr w.heap.size y0.1 wr gd n dn u5 C pv acc) ∧ Hid (∀ k, pv.ownBlock = some k → g < k) ∧ Hid (InnP l n R f dn R' p acc r) ∧ Hid (Blk wr g 36 #[.int .i64 f.1, .int .i64 f.2]) ∧ ∃ y : Kin w, y.1 = wr) (fun _ pv _ => n + 1 - lenS pv)
              case atStart => exact ⟨_, _, _, _, _, rfl, HT5, Lib.hid (fun k e => by cases e), HI0, HB5, y5, rfl⟩
              case round =>
                clear HT5 HI0 HB5
                obtain ⟨r2, dn2, R2, p2, acc, rfl, HT, HNB, HI, HB, y6, rfl⟩ := hrel
                have g_0 : y6.1.cell? ⟨g, 0, none⟩ = some (.int .i64 f.1) := HB.out.cell 0
                have g_1 : y6.1.cell? ⟨g, 1, none⟩ = some (.int .i64 f.2) := HB.out.cell 1
                have gl := HB.out.lt
                have hw6 : y0.1.heap.size ≤ y6.1.heap.size := HT.out.2.2.2.1.size
                have hal := HI.out.len
                obtain ⟨Av, cv, rfl⟩ := own_slc HT.out.pts
                rcases HI.out.at_ with ⟨rfl, he⟩ | ⟨i2, s2, rfl, hi2, hs2, hd2, hf2, rfl, t2, he⟩
                · have HW := Lib.hid (show walkP R f f = (acc, R2) by rw [HI.out.walk, walk_nil he, List.append_nil])
                  clear he
                  go_wp2_with fail
                  ((refine wp_region_kinK (W := w) (by kernel_rfl) (by kernel_rfl) (by repeat (first | with_reducible (first | exact blA | exact blB | refine blC _ ?_ | refine blD ?_ ?_ _ | refine blE ?_ | refine blF _ ?_ | refine blG ?_ _ | refine blH ?_ | refine blI ?_ ?_ _) | (simp only [World.size_alloc]; omega) | (simp <;> omega))) ?_); (repeat' (first | go_big_quiet_step (fail) | ((refine wpQuiet_guard rfl rfl rfl rfl (fun hg => ?_) (fun hg => ?_)) <;> (fail_if_success (first | guard_hyp hg : true = true | guard_hyp hg : false = false)) <;> (try simp only [decide_eq_true_eq, decide_eq_false_iff_not] at hg) <;> simp only [Act.put, List.setIfInBounds_toArray, List.set_cons_zero, List.set_cons_succ]))); all_goals ((with_reducible refine wpQuiet_nil ?_); intro zq hz))
                  all_goals (try (exfalso; first | omega | (simp_all; done)))
                  have HTQ := Lib.hid (HT.out.below hz)
                  obtain ⟨_, _, _, _, hs9, t1, t2, t3, _, t5, _⟩ := HTQ.out
                  have hc9 : hs9.length ≤ n := by have := t2.1; omega
                  have HH1 := Lib.hid t1
                  have HH2 := Lib.hid t2
                  have HH3 := Lib.hid t3
                  have HH5 := Lib.hid t5
                  have hwq : y0.1.heap.size ≤ zq.1.heap.size := HTQ.out.2.2.2.1.size
                  clear t1 t2 t3 t5 hz
                  go_wp2_with (at_builtin; refine wpList_app _ rfl _ _ 24 rfl encPol_len (by decide) onePol y0.1.heap.size 42 (.agg #[.slice none 0 0]) 24 infoPol rfl Try.underlying24 _ _ _ _ rfl (HH1.out.alloc _) _ _ _ rfl (rd_one _ encPol_len _ ((Av, acc.length, cv) : PolH) _ rfl) ?c1 (by decide) ?c2 ?_; (case c1 => (first | (simp only [List.length_append, List.length_cons, List.length_nil]; omega) | omega | (simp; omega))); (case c2 => exact (by repeat (first | with_reducible exact Nat.le_refl _ | assumption | with_reducible refine le_alloc ?_ _ | with_reducible refine le_drew ?_ | with_reducible refine Kin.le _ ?_ | assumption | omega | (simp only [World.size_alloc]; omega)))); intro v' w1 hown' hg hbel hat'; ((obtain ⟨y7, rfl⟩ : ∃ y7 : Kin w, y7.1 = w1 := ⟨⟨w1, Below.trans (by repeat (first | with_reducible (first | exact blA | exact blB | refine blC _ ?_ | refine blD ?_ ?_ _ | refine blE ?_ | refine blF _ ?_ | refine blG ?_ _ | refine blH ?_ | refine blI ?_ ?_ _) | (simp only [World.size_alloc]; omega) | (simp <;> omega))) (hbel.mono hwy)⟩, rfl⟩); have HTN := Lib.hid (Thr.push HTQ.out HH1.out HH2.out HH3.out HH5.out ((Below.refl _ _).alloc (Nat.le_refl _) _) hown' hg hat'); clear hown' hg hbel hat'))
                  have hryY := HRL.out.below y7.2
                  have hrdY : Rd 1 encB y7.1 (.slice (some ⟨gd, 0, none⟩) n n) dn2 := Rd.own' encB_len (by decide) HTN.out.1
                  (go_at_call 38; (with_reducible refine (Kin.callK (W := w) (by repeat (first | with_reducible (first | exact blA | exact blB | refine blC _ ?_ | refine blD ?_ ?_ _ | refine blE ?_ | refine blF _ ?_ | refine blG ?_ _ | refine blH ?_ | refine blI ?_ ?_ _) | (simp only [World.size_alloc]; omega) | (simp <;> omega))) (leastR_0 _ gd n l _ _ HL.out hryY hrdY HI.out.dl (by omega))).mono ?_); rintro e w' ⟨z3, ⟨r3, rfl, hr3⟩, hz3, rfl⟩; skip)
                  have HON := Lib.hid (outp_next HO.out HRH.out HFD.out HW.out HI.out.rem hr3 HI.out.dl)
                  have HT3 := Lib.hid (HTN.out.below hz3)
                  clear hryY hrdY hr3 hz3
                  go_wp2_with fail
                  refine ⟨⟨r3, _, _, _, rfl, HT3, HON, z3, rfl⟩, ?_⟩
                  rw [(lenS_thr HT3.out).1, (lenS_thr HT.out).1, List.length_append, List.length_singleton]
                  have := HON.out.len
                  rw [List.length_append, List.length_singleton] at this
                  omega
                · have q_0 : w.cell? ⟨bA, offA + i2 * 4, none⟩ = some (.int .i64 s2.1.1) := HAC.out i2 s2 hs2 0 _ rfl
                  have q_1 : w.cell? ⟨bA, offA + i2 * 4 + 1, none⟩ = some (.int .i64 s2.1.2) := HAC.out i2 s2 hs2 1 _ rfl
                  have q_2 : w.cell? ⟨bA, offA + i2 * 4 + 2, none⟩ = some (.int .i64 s2.2.1) := HAC.out i2 s2 hs2 2 _ rfl
                  have q_3 : w.cell? ⟨bA, offA + i2 * 4 + 3, none⟩ = some (.int .i64 s2.2.2) := HAC.out i2 s2 hs2 3 _ rfl
                  have q_2' : w.cell? ⟨bA, offA + (i2 * 4 + 2), none⟩ = some (.int .i64 s2.2.1) := by rw [← Nat.add_assoc]; exact q_2
                  have q_3' : w.cell? ⟨bA, offA + (i2 * 4 + 2) + 1, none⟩ = some (.int .i64 s2.2.2) := by rw [← Nat.add_assoc]; exact q_3
                  have hi20 : ¬ (i2 : Int) < 0 := by omega
                  have HS2 := Lib.hid hs2
                  have HD2 := Lib.hid hd2
                  have HF2 := Lib.hid hf2
                  have HEN := Lib.hid he
                  have hpl := pop_len he
                  clear hs2 hd2 hf2 he
                  by_cases hbf : s2.2 = f
                  · have hrun := neqP_run (r := false) (show eqP s2.2 f = !false from eqP_iff.2 hbf)
                    have HW := Lib.hid (show walkP R f f = (acc ++ [s2.1], pop R2 s2.1) by rw [HI.out.walk, walk_end HEN.out hbf])
                    clear hbf
                    go_wp2_with fail
                    ((refine wp_region_kinK (W := w) (by kernel_rfl) (by kernel_rfl) (by repeat (first | with_reducible (first | exact blA | exact blB | refine blC _ ?_ | refine blD ?_ ?_ _ | refine blE ?_ | refine blF _ ?_ | refine blG ?_ _ | refine blH ?_ | refine blI ?_ ?_ _) | (simp only [World.size_alloc]; omega) | (simp <;> omega))) ?_); (repeat' (first | go_big_quiet_step (fail) | ((refine wpQuiet_guard rfl rfl rfl rfl (fun hg => ?_) (fun hg => ?_)) <;> (fail_if_success (first | guard_hyp hg : true = true | guard_hyp hg : false = false)) <;> (try simp only [decide_eq_true_eq, decide_eq_false_iff_not] at hg) <;> simp only [Act.put, List.setIfInBounds_toArray, List.set_cons_zero, List.set_cons_succ]))); all_goals ((with_reducible refine wpQuiet_nil ?_); intro zq hz))
                    all_goals (try (exfalso; first | omega | (simp_all; done)))
                    have HT1 := Lib.hid (HT.out.below hz)
                    have HB1 := Lib.hid (HB.out.below hz)
                    have hwq : y0.1.heap.size ≤ zq.1.heap.size := HT1.out.2.2.2.1.size
                    have hacl : acc.length ≤ n := by omega
                    clear hz
                    go_wp2_with (first
                      | (at_builtin; refine wpList_app _ rfl _ _ 40 rfl encPt_len (by decide) oneP y0.1.heap.size 36 (.agg #[.int .i64 0, .int .i64 0]) 16 infoPt2 rfl Try.underlying40 _ _ _ _ rfl (HT1.out.pts.alloc _) _ _ _ rfl (rd_one _ encPt_len _ s2.1 _ rfl) ?c1 (by decide) ?c2 ?_; (case c1 => (first | (simp only [List.length_append, List.length_cons, List.length_nil]; omega) | omega | (simp; omega))); (case c2 => exact (by repeat (first | with_reducible exact Nat.le_refl _ | assumption | with_reducible refine le_alloc ?_ _ | with_reducible refine le_drew ?_ | with_reducible refine Kin.le _ ?_ | assumption | omega | (simp only [World.size_alloc]; omega)))); intro v' w1 hown' hg hbel hat'; ((obtain ⟨y7, rfl⟩ : ∃ y7 : Kin w, y7.1 = w1 := ⟨⟨w1, Below.trans (by repeat (first | with_reducible (first | exact blA | exact blB | refine blC _ ?_ | refine blD ?_ ?_ _ | refine blE ?_ | refine blF _ ?_ | refine blG ?_ _ | refine blH ?_ | refine blI ?_ ?_ _) | (simp only [World.size_alloc]; omega) | (simp <;> omega))) (hbel.mono hwy)⟩, rfl⟩); have HTG := Lib.hid (Thr.grow (acc' := acc ++ [s2.1]) (HT1.out.below ((Below.refl _ _).alloc (Nat.le_refl _) _)) hown' hg hat'); (obtain ⟨⟨cu, hcu⟩, hcf, hcl⟩ := HTG.out.cell hi2); have HTM := Lib.hid (HTG.out.mark hi2); (obtain ⟨_, _, _, _, hs9, t1, t2, t3, _, t5, t6⟩ := HTM.out); (obtain ⟨Av2, cv2, hv2⟩ := own_slc t6); (obtain rfl : v' = .slice Av2 (acc.length + 1) cv2 := (by rw [hv2, List.length_append, List.length_singleton])); clear hv2; have hc9 : hs9.length ≤ n := (by have := t2.1; omega); have HH1 := Lib.hid t1; have HH2 := Lib.hid t2; have HH3 := Lib.hid t3; have HH5 := Lib.hid t5; have HTQ := HTM; have hsq8 := HTM.out.2.2.2.1.size; clear t1 t2 t3 t5 t6; clear hown' hg hbel hat'))
                      | (at_builtin; refine wpList_app _ rfl _ _ 24 rfl encPol_len (by decide) onePol y0.1.heap.size 42 (.agg #[.slice none 0 0]) 24 infoPol rfl Try.underlying24 _ _ _ _ rfl (HH1.out.alloc _) _ _ _ rfl (rd_one _ encPol_len _ ((Av2, acc.length + 1, cv2) : PolH) _ rfl) ?c1 (by decide) ?c2 ?_; (case c1 => (first | (simp only [List.length_append, List.length_cons, List.length_nil]; omega) | omega | (simp; omega))); (case c2 => exact (by repeat (first | with_reducible exact Nat.le_refl _ | assumption | with_reducible refine le_alloc ?_ _ | with_reducible refine le_drew ?_ | with_reducible refine Kin.le _ ?_ | assumption | omega | (simp only [World.size_alloc]; omega)))); intro v' w1 hown' hg hbel hat'; ((obtain ⟨y7, rfl⟩ : ∃ y7 : Kin w, y7.1 = w1 := ⟨⟨w1, Below.trans (by repeat (first | with_reducible (first | exact blA | exact blB | refine blC _ ?_ | refine blD ?_ ?_ _ | refine blE ?_ | refine blF _ ?_ | refine blG ?_ _ | refine blH ?_ | refine blI ?_ ?_ _) | (simp only [World.size_alloc]; omega) | (simp <;> omega))) (hbel.mono hwy)⟩, rfl⟩); have HTN := Lib.hid (Thr.push HTQ.out HH1.out HH2.out HH3.out HH5.out ((Below.refl _ _).alloc (Nat.le_refl _) _) hown' hg hat'); clear hown' hg hbel hat')))
                    have hryY := HRL.out.below y7.2
                    have hrdY : Rd 1 encB y7.1 (.slice (some ⟨gd, 0, none⟩) n n) (dn2.set i2 true) := Rd.own' encB_len (by decide) HTN.out.1
                    (go_at_call 38; (with_reducible refine (Kin.callK (W := w) (by repeat (first | with_reducible (first | exact blA | exact blB | refine blC _ ?_ | refine blD ?_ ?_ _ | refine blE ?_ | refine blF _ ?_ | refine blG ?_ _ | refine blH ?_ | refine blI ?_ ?_ _) | (simp only [World.size_alloc]; omega) | (simp <;> omega))) (leastR_0 _ gd n l _ _ HL.out hryY hrdY (by rw [List.length_set]; exact HI.out.dl) (by omega))).mono ?_); rintro e w' ⟨z3, ⟨r3, rfl, hr3⟩, hz3, rfl⟩; skip)
                    have HON := Lib.hid (outp_next HO.out HRH.out HFD.out HW.out (HI.out.rem.mark HS2.out HD2.out HF2.out HEN.out) hr3 (by rw [List.length_set]; exact HI.out.dl))
                    have HT3 := Lib.hid (HTN.out.below hz3)
                    clear hryY hrdY hr3 hz3
                    go_wp2_with fail
                    refine ⟨⟨r3, _, _, _, rfl, HT3, HON, z3, rfl⟩, ?_⟩
                    rw [(lenS_thr HT3.out).1, (lenS_thr HT.out).1, List.length_append, List.length_singleton]
                    have := HON.out.len
                    rw [List.length_append, List.length_singleton] at this
                    omega
                  · have hrun := neqP_run (r := true) (show eqP s2.2 f = !true from eqP_ne hbf)
                    have HBF := Lib.hid hbf
                    clear hbf
                    go_wp2_with fail
                    ((refine wp_region_kinK (W := w) (by kernel_rfl) (by kernel_rfl) (by repeat (first | with_reducible (first | exact blA | exact blB | refine blC _ ?_ | refine blD ?_ ?_ _ | refine blE ?_ | refine blF _ ?_ | refine blG ?_ _ | refine blH ?_ | refine blI ?_ ?_ _) | (simp only [World.size_alloc]; omega) | (simp <;> omega))) ?_); (repeat' (first | go_big_quiet_step (fail) | ((refine wpQuiet_guard rfl rfl rfl rfl (fun hg => ?_) (fun hg => ?_)) <;> (fail_if_success (first | guard_hyp hg : true = true | guard_hyp hg : false = false)) <;> (try simp only [decide_eq_true_eq, decide_eq_false_iff_not] at hg) <;> simp only [Act.put, List.setIfInBounds_toArray, List.set_cons_zero, List.set_cons_succ]))); all_goals ((with_reducible refine wpQuiet_nil ?_); intro zq hz))
                    all_goals (try (exfalso; first | omega | (simp_all; done)))
                    have HT1 := Lib.hid (HT.out.below hz)
                    have HB1 := Lib.hid (HB.out.below hz)
                    have hwq : y0.1.heap.size ≤ zq.1.heap.size := HT1.out.2.2.2.1.size
                    have hacl : acc.length ≤ n := by omega
                    clear hz
                    go_wp2_with (at_builtin; refine wpList_app _ rfl _ _ 40 rfl encPt_len (by decide) oneP y0.1.heap.size 36 (.agg #[.int .i64 0, .int .i64 0]) 16 infoPt2 rfl Try.underlying40 _ _ _ _ rfl (HT1.out.pts.alloc _) _ _ _ rfl (rd_one _ encPt_len _ s2.1 _ rfl) ?c1 (by decide) ?c2 ?_; (case c1 => (first | (simp only [List.length_append, List.length_cons, List.length_nil]; omega) | omega | (simp; omega))); (case c2 => exact (by repeat (first | with_reducible exact Nat.le_refl _ | assumption | with_reducible refine le_alloc ?_ _ | with_reducible refine le_drew ?_ | with_reducible refine Kin.le _ ?_ | assumption | omega | (simp only [World.size_alloc]; omega)))); intro v' w1 hown' hg hbel hat'; ((obtain ⟨y7, rfl⟩ : ∃ y7 : Kin w, y7.1 = w1 := ⟨⟨w1, Below.trans (by repeat (first | with_reducible (first | exact blA | exact blB | refine blC _ ?_ | refine blD ?_ ?_ _ | refine blE ?_ | refine blF _ ?_ | refine blG ?_ _ | refine blH ?_ | refine blI ?_ ?_ _) | (simp only [World.size_alloc]; omega) | (simp <;> omega))) (hbel.mono hwy)⟩, rfl⟩); have HTG := Lib.hid (Thr.grow (acc' := acc ++ [s2.1]) (HT1.out.below ((Below.refl _ _).alloc (Nat.le_refl _) _)) hown' hg hat'); (obtain ⟨⟨cu, hcu⟩, hcf, hcl⟩ := HTG.out.cell hi2); have HTM := Lib.hid (HTG.out.mark hi2); have HNB7 := Lib.hid (show ∀ k, Value.ownBlock v' = some k → g < k from fun k e => (by rcases hat' with e2 | e2; exact HNB.out k (e2.symm.trans e); rw [e2] at e; injection e with e; rw [← e, World.size_alloc]; exact Nat.lt_succ_of_lt HB1.out.lt)); have HB7 := Lib.hid ((HB1.out.al_ _).grown hg (fun e => absurd (HNB.out g e.symm) (Nat.lt_irrefl _))); clear hown' hg hbel hat'))
                    obtain ⟨y8, hy8⟩ : ∃ y8 : Kin w, y8.1 = y7.1.setCell ⟨gd, i2, none⟩ (.bool true) := ⟨⟨_, y7.2.setCell hwgd _⟩, rfl⟩
                    rw [← hy8] at HTM ⊢
                    have hB8 : Blk y8.1 g 36 #[.int .i64 f.1, .int .i64 f.2] := by
                      rw [hy8]
                      refine HB7.out.far ?_ _
                      show g ≠ gd
                      have := HTM.out.2.1
                      omega
                    have HB8 := Lib.hid hB8
                    clear hy8 hB8
                    have hryY := HRL.out.below y8.2
                    have hrdY : Rd 1 encB y8.1 (.slice (some ⟨gd, 0, none⟩) n n) (dn2.set i2 true) := Rd.own' encB_len (by decide) HTM.out.1
                    have hdlY : (dn2.set i2 true).length = n := by rw [List.length_set]; exact HI.out.dl
                    (go_at_call 38; (with_reducible refine (Kin.callK (W := w) (by repeat (first | with_reducible (first | exact blA | exact blB | refine blC _ ?_ | refine blD ?_ ?_ _ | refine blE ?_ | refine blF _ ?_ | refine blG ?_ _ | refine blH ?_ | refine blI ?_ ?_ _) | (simp only [World.size_alloc]; omega) | (simp <;> omega))) (leastR_is _ gd n l _ true s2.2 _ HL.out hryY hrdY hdlY (by omega))).mono ?_); rintro e w' ⟨z3, ⟨r3, rfl, hr3⟩, hz3, rfl⟩; skip)
                    have HIN := Lib.hid (done_next HI.out HS2.out HD2.out HF2.out HEN.out HBF.out hr3 HL.out)
                    have HT3 := Lib.hid (HTM.out.below hz3)
                    have HB3 := Lib.hid (HB8.out.below hz3)
                    clear hryY hrdY hdlY hr3 hz3
                    go_wp2_with fail
                    refine ⟨⟨r3, _, _, _, _, rfl, HT3, HNB7, HIN, HB3, z3, rfl⟩, ?_⟩
                    rw [(lenS_thr HT3.out).2, (lenS_thr HT.out).2]
                    have h1 := HIN.out.len
                    rw [List.length_append, List.length_singleton] at h1 ⊢
                    omega
  · have HE1 := Lib.hid (show chErr l = 2 by unfold chErr; rw [hL, if_pos (by omega)])
    have HE2 := Lib.hid (show chLst l = [] by unfold chLst; rw [HE1.out]; rfl)
    rw [hL] at hcapA ⊢
    clear hL hw HLA
    go_enter Try.func15, Try.ntmps15
    go_wp2_with fail
    go_ret2
    rw [HE1.out, HE2.out]
    exact ⟨⟨_, rfl, RdN.nil⟩, Below.refl _ _⟩
end Go.Proofs.Yteadnlodccnfcaa

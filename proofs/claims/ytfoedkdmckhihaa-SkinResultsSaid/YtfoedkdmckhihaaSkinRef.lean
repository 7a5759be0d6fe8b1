/- What the chapter's Skin returns. -/
import Derived.Test.YtfoedkdmckhihaaRegOper
import Derived.Test.YtfoedkdmckhihaaSkin
import Derived.Test.YtfoedkdmckhihaaSkinLawD
namespace Go.Proofs.Ytfoedkdmckhihaa
set_option linter.unusedSimpArgs false
set_option linter.unusedVariables false
open Go.RowKit Runs Reg
attribute [local go_sem] Kin.cell Kin.frozen Kin.lt0 Kin.lt1 Kin.lt2 Kin.lt3 run_mkf
theorem layR_none {rs : List (List Reg.Row)} {i : Int} (h : i < 0 ∨ (rs.length : Int) ≤ i) : layR rs i = [] := by
  unfold layR
  split
  · rw [List.getElem?_eq_none (by omega)]
  · rfl
set_option maxRecDepth 100000 in
set_option maxHeartbeats 4000000 in
theorem layer28_any (v : Value) (rs : List (List Reg.Row)) (i : Int) (w : World) (h : RdRegs w v rs) (hbd : ∀ r ∈ rs, RBd r) (hlen : rs.length ≤ 17179869184) :
    Calls Try.prog 39 #[v, .int .i64 i] w fun e w' => (∃ S c, e = .returned (.agg #[.slice S (layR rs i).length c]) ∧ RdReg w' (.agg #[.slice S (layR rs i).length c]) (layR rs i)) ∧ Below w.heap.size w w' := by
  obtain ⟨A, capA, rfl, hcapA, hop⟩ := regs_open h
  have H := Lib.hid h
  clear h
  by_cases h0 : i < 0
  · rw [layR_none (.inl h0)]
    go_enter Try.func39, Try.ntmps39
    go_wp2
    ((try simp only [Exit.inBlock, Exit.then]); refine bodyPost_ret (results_cell_row rfl _ _ _ _ _ (0, 0) _ rfl ((Blk.new w 29 #[.slice none 0 0])) Try.underlying29 rfl (by kernel_rfl)) rfl ?_)
    exact ⟨⟨_, _, rfl, RdReg.nil⟩, (by repeat (first | with_reducible exact Below.refl _ _ | with_reducible exact Nat.le_refl _ | with_reducible refine Kin.below _ ?_ | with_reducible refine Below.alloc ?_ ?_ _ | with_reducible refine Below.drew ?_ | with_reducible refine Kin.le _ ?_ | with_reducible refine le_alloc ?_ _ | with_reducible refine le_drew ?_ | with_reducible refine Below.setCell ?_ ?_ _ | with_reducible exact Nat.le_refl _ | (simp only [World.size_alloc]; omega) | (simp <;> omega)))⟩
  · by_cases h1 : (rs.length : Int) ≤ i
    · rw [layR_none (.inr h1)]
      go_enter Try.func39, Try.ntmps39
      go_wp2
      ((try simp only [Exit.inBlock, Exit.then]); refine bodyPost_ret (results_cell_row rfl _ _ _ _ _ (0, 0) _ rfl ((Blk.new w 29 #[.slice none 0 0])) Try.underlying29 rfl (by kernel_rfl)) rfl ?_)
      exact ⟨⟨_, _, rfl, RdReg.nil⟩, (by repeat (first | with_reducible exact Below.refl _ _ | with_reducible exact Nat.le_refl _ | with_reducible refine Kin.below _ ?_ | with_reducible refine Below.alloc ?_ ?_ _ | with_reducible refine Below.drew ?_ | with_reducible refine Kin.le _ ?_ | with_reducible refine le_alloc ?_ _ | with_reducible refine le_drew ?_ | with_reducible refine Below.setCell ?_ ?_ _ | with_reducible exact Nat.le_refl _ | (simp only [World.size_alloc]; omega) | (simp <;> omega)))⟩
    · obtain ⟨k, rfl⟩ : ∃ k : Nat, i = (k : Int) := ⟨i.toNat, by omega⟩
      have hk : k < rs.length := by omega
      obtain ⟨r, hr⟩ : ∃ r, rs[k]? = some r := ⟨_, List.getElem?_eq_getElem hk⟩
      obtain ⟨b, off, rfl, hb, hc⟩ := hop k _ hr
      obtain ⟨S, n, c, e_0, hreg⟩ := hc k _ hr
      have e : layR rs (k : Int) = if rvalid r then r else [] := by simp [layR, hr]
      have Hbd := Lib.hid (hbd r (List.mem_of_getElem? hr))
      have HR := Lib.hid hreg
      have hb42 : b < w.heap.size + 1 := by omega
      clear hc hop hreg hr h0 h1 hbd
      cases hv : rvalid r
      · rw [hv] at e
        rw [e]
        clear e
        simp only [Bool.false_eq_true, if_false]
        go_enter Try.func39, Try.ntmps39
        go_wp2_with (go_at_call 46; (with_reducible refine (Kin.callK (W := w.alloc (.cells #[.slice none 0 0] 29)) (by repeat (first | with_reducible exact Below.refl _ _ | with_reducible exact Nat.le_refl _ | with_reducible refine Kin.below _ ?_ | with_reducible refine Below.alloc ?_ ?_ _ | with_reducible refine Below.drew ?_ | with_reducible refine Kin.le _ ?_ | with_reducible refine le_alloc ?_ _ | with_reducible refine le_drew ?_ | with_reducible refine Below.setCell ?_ ?_ _ | with_reducible exact Nat.le_refl _ | (simp only [World.size_alloc]; omega) | (simp <;> omega))) (valid18_is _ r _ (HR.out.below (by repeat (first | with_reducible exact Below.refl _ _ | with_reducible exact Nat.le_refl _ | with_reducible refine Kin.below _ ?_ | with_reducible refine Below.alloc ?_ ?_ _ | with_reducible refine Below.drew ?_ | with_reducible refine Kin.le _ ?_ | with_reducible refine le_alloc ?_ _ | with_reducible refine le_drew ?_ | with_reducible refine Below.setCell ?_ ?_ _ | with_reducible exact Nat.le_refl _ | (simp only [World.size_alloc]; omega) | (simp <;> omega)))) Hbd.out hv)).mono ?_); rintro e w' ⟨z, rfl, hz, rfl⟩)
        have hB := (Blk.new w 29 #[.slice none 0 0]).below z.2
        ((try simp only [Exit.inBlock, Exit.then]); refine bodyPost_ret (results_cell_row rfl _ _ _ _ _ (0, 0) _ rfl (hB.set_ 0 _) Try.underlying29 rfl (by kernel_rfl)) rfl ?_)
        exact ⟨⟨_, _, rfl, RdReg.nil⟩, (by repeat (first | with_reducible exact Below.refl _ _ | with_reducible exact Nat.le_refl _ | with_reducible refine Kin.below _ ?_ | with_reducible refine Below.alloc ?_ ?_ _ | with_reducible refine Below.drew ?_ | with_reducible refine Kin.le _ ?_ | with_reducible refine le_alloc ?_ _ | with_reducible refine le_drew ?_ | with_reducible refine Below.setCell ?_ ?_ _ | with_reducible exact Nat.le_refl _ | (simp only [World.size_alloc]; omega) | (simp <;> omega)))⟩
      · rw [hv] at e
        rw [e]
        clear e
        simp only [if_true]
        go_enter Try.func39, Try.ntmps39
        go_wp2_with (first
          | (go_at_call 46; (with_reducible refine (Kin.callK (W := w.alloc (.cells #[.slice none 0 0] 29)) (by repeat (first | with_reducible exact Below.refl _ _ | with_reducible exact Nat.le_refl _ | with_reducible refine Kin.below _ ?_ | with_reducible refine Below.alloc ?_ ?_ _ | with_reducible refine Below.drew ?_ | with_reducible refine Kin.le _ ?_ | with_reducible refine le_alloc ?_ _ | with_reducible refine le_drew ?_ | with_reducible refine Below.setCell ?_ ?_ _ | with_reducible exact Nat.le_refl _ | (simp only [World.size_alloc]; omega) | (simp <;> omega))) (valid18_is _ r _ (HR.out.below (by repeat (first | with_reducible exact Below.refl _ _ | with_reducible exact Nat.le_refl _ | with_reducible refine Kin.below _ ?_ | with_reducible refine Below.alloc ?_ ?_ _ | with_reducible refine Below.drew ?_ | with_reducible refine Kin.le _ ?_ | with_reducible refine le_alloc ?_ _ | with_reducible refine le_drew ?_ | with_reducible refine Below.setCell ?_ ?_ _ | with_reducible exact Nat.le_refl _ | (simp only [World.size_alloc]; omega) | (simp <;> omega)))) Hbd.out hv)).mono ?_); rintro e w' ⟨z, rfl, hz, rfl⟩)
          | (go_at_call 60; (with_reducible refine (Kin.callK (W := w.alloc (.cells #[.slice none 0 0] 29)) (by repeat (first | with_reducible exact Below.refl _ _ | with_reducible exact Nat.le_refl _ | with_reducible refine Kin.below _ ?_ | with_reducible refine Below.alloc ?_ ?_ _ | with_reducible refine Below.drew ?_ | with_reducible refine Kin.le _ ?_ | with_reducible refine le_alloc ?_ _ | with_reducible refine le_drew ?_ | with_reducible refine Below.setCell ?_ ?_ _ | with_reducible exact Nat.le_refl _ | (simp only [World.size_alloc]; omega) | (simp <;> omega))) (union18_any _ _ r [] _ (HR.out.below (by repeat (first | with_reducible exact Below.refl _ _ | with_reducible exact Nat.le_refl _ | with_reducible refine Kin.below _ ?_ | with_reducible refine Below.alloc ?_ ?_ _ | with_reducible refine Below.drew ?_ | with_reducible refine Kin.le _ ?_ | with_reducible refine le_alloc ?_ _ | with_reducible refine le_drew ?_ | with_reducible refine Below.setCell ?_ ?_ _ | with_reducible exact Nat.le_refl _ | (simp only [World.size_alloc]; omega) | (simp <;> omega)))) RdReg.nil Hbd.out (rvalid_bd rvalid_nil))).mono ?_); rintro e w' ⟨z, ⟨R, cR, rfl, hr⟩, hz, rfl⟩; (rw [rop_empty hv] at hr ⊢; have HRR := Lib.hid hr; have hB := Lib.hid ((Blk.new w 29 #[.slice none 0 0]).below z.2); have q0 : (Kin.wd z).cell? ⟨w.heap.size, 0, none⟩ = some (.slice none 0 0) := hB.out.cell 0; have qf : (Kin.wd z).frozen? ⟨w.heap.size, 0, none⟩ = false := hB.out.frozen 0; have ql := hB.out.lt; clear hr)))
        ((try simp only [Exit.inBlock, Exit.then]); refine bodyPost_ret (results_cell_row rfl _ _ _ _ _ (0, 0) _ rfl (hB.out.set_ 0 _) Try.underlying29 rfl (by kernel_rfl)) rfl ?_)
        exact ⟨⟨_, _, rfl, HRR.out.set_ hB.out⟩, (by repeat (first | with_reducible exact Below.refl _ _ | with_reducible exact Nat.le_refl _ | with_reducible refine Kin.below _ ?_ | with_reducible refine Below.alloc ?_ ?_ _ | with_reducible refine Below.drew ?_ | with_reducible refine Kin.le _ ?_ | with_reducible refine le_alloc ?_ _ | with_reducible refine le_drew ?_ | with_reducible refine Below.setCell ?_ ?_ _ | with_reducible exact Nat.le_refl _ | (simp only [World.size_alloc]; omega) | (simp <;> omega)))⟩
/-- the solid and the sparse cells, as the chapter counts them -/
def skin28R (rs : List (List Reg.Row)) (i top bottom : Int) : List Reg.Row × List Reg.Row :=
  if i < 0 ∨ (rs.length : Int) ≤ i then ([], [])
  else (rop (opf 0) (layR rs i) (spB rs (spT rs (layR rs i) i (min top rs.length).toNat) i (min bottom rs.length).toNat), spB rs (spT rs (layR rs i) i (min top rs.length).toNat) i (min bottom rs.length).toNat)
theorem skin28_is (rs : List (List Reg.Row)) (i top bottom : Int) : skin28R rs i top bottom = skinR rs i top bottom := by
  unfold skin28R skinR
  have hl := layR_valid rs i
  by_cases h : i < 0 ∨ (rs.length : Int) ≤ i
  · rw [if_pos h, if_pos h]
  rw [if_neg h, if_neg h]
  by_cases h2 : (rs.length : Int) - 1 - i < max top 0 ∨ i < max bottom 0
  · rw [if_pos h2]
    have hB := spB_valid (rs := rs) (i := i) (spT_valid (rs := rs) (i := i) hl (min top rs.length).toNat) (min bottom rs.length).toNat
    have e : spB rs (spT rs (layR rs i) i (min top rs.length).toNat) i (min bottom rs.length).toNat = [] := by
      refine vreg_ext (rvalid_iff.1 hB) vreg_nil fun x y => ?_
      rw [memC_nil, memC_spB (spT_valid hl _), memC_spT hl]
      rw [Bool.eq_false_iff]
      simp only [ne_eq, Bool.and_eq_true, List.all_eq_true, List.mem_range]
      rintro ⟨⟨_, h3⟩, h4⟩
      rcases h2 with h2 | h2
      · have := h3 ((rs.length : Int) - 1 - i).toNat (by omega)
        rw [layR_none (.inr (by omega)), memC_nil] at this
        cases this
      · have := h4 i.toNat (by omega)
        rw [layR_none (.inl (by omega)), memC_nil] at this
        cases this
    rw [e]
    congr 1
    exact (rop_eq (opf_ff 0) hl rvalid_nil (rvalid_iff.1 hl) (fun x y => by rw [memC_nil]; simp [opf])).symm
  · rw [if_neg h2]
    have e1 : (min top (rs.length : Int)).toNat = (max top 0).toNat := by omega
    have e2 : (min bottom (rs.length : Int)).toNat = (max bottom 0).toNat := by omega
    rw [e1, e2]
set_option maxRecDepth 100000 in
set_option maxHeartbeats 8000000 in
theorem skin28_any (v : Value) (rs : List (List Reg.Row)) (i top bottom : Int) (w : World) (h : RdRegs w v rs) (hbd : ∀ r ∈ rs, RBd r) (hlen : rs.length ≤ 12) :
    Calls Try.prog 17 #[v, .int .i64 i, .int .i64 top, .int .i64 bottom] w fun e w' => (∃ (SA : Option Addr) (nA cA : Nat) (SB : Option Addr) (nB cB : Nat), e = .returned (.tuple #[.agg #[.slice SA nA cA], .agg #[.slice SB nB cB]]) ∧ RdReg w' (.agg #[.slice SA nA cA]) (skinR rs i top bottom).1 ∧ RdReg w' (.agg #[.slice SB nB cB]) (skinR rs i top bottom).2) ∧ Below w.heap.size w w' := by
  obtain ⟨A, capA, rfl, hcapA, _⟩ := regs_open h
  have H := Lib.hid h
  have Hbd := Lib.hid hbd
  clear h hbd
  rw [← skin28_is]
  by_cases hi : i < 0 ∨ (rs.length : Int) ≤ i
  · have hr : skin28R rs i top bottom = ([], []) := by unfold skin28R; rw [if_pos hi]
    rw [hr]
    have hB := Kin.boxes2 (⟨_, Below.refl _ _⟩ : Kin ((w.alloc (.cells #[.slice none 0 0] 29)).alloc (.cells #[.slice none 0 0] 29)))
    go_enter Try.func17, Try.ntmps17
    rcases hi with hi | hi
    · go_wp2
      ((try simp only [Exit.inBlock, Exit.then]); refine bodyPost_ret (results_cells2 rfl _ _ (0, 0) (0, 0) rfl (hB.1) rfl (hB.2) Try.underlying29 rfl (by kernel_rfl)) rfl ?_)
      exact ⟨⟨_, _, _, _, _, _, rfl, RdReg.nil, RdReg.nil⟩, (by repeat (first | with_reducible exact Below.refl _ _ | with_reducible exact Nat.le_refl _ | with_reducible refine Kin.below _ ?_ | with_reducible refine Below.alloc ?_ ?_ _ | with_reducible refine Below.drew ?_ | with_reducible refine Kin.le _ ?_ | with_reducible refine le_alloc ?_ _ | with_reducible refine le_drew ?_ | with_reducible refine Below.setCell ?_ ?_ _ | with_reducible exact Nat.le_refl _ | (simp only [World.size_alloc]; omega) | (simp <;> omega)))⟩
    · have hi0 : ¬ i < 0 := by omega
      go_wp2
      ((try simp only [Exit.inBlock, Exit.then]); refine bodyPost_ret (results_cells2 rfl _ _ (0, 0) (0, 0) rfl (hB.1) rfl (hB.2) Try.underlying29 rfl (by kernel_rfl)) rfl ?_)
      exact ⟨⟨_, _, _, _, _, _, rfl, RdReg.nil, RdReg.nil⟩, (by repeat (first | with_reducible exact Below.refl _ _ | with_reducible exact Nat.le_refl _ | with_reducible refine Kin.below _ ?_ | with_reducible refine Below.alloc ?_ ?_ _ | with_reducible refine Below.drew ?_ | with_reducible refine Kin.le _ ?_ | with_reducible refine le_alloc ?_ _ | with_reducible refine le_drew ?_ | with_reducible refine Below.setCell ?_ ?_ _ | with_reducible exact Nat.le_refl _ | (simp only [World.size_alloc]; omega) | (simp <;> omega)))⟩
  · have hlv := layR_valid rs i
    have hi1 : ¬ i < 0 := by omega
    have hi2 : ¬ (rs.length : Int) ≤ i := by omega
    obtain ⟨T, hT, hTl⟩ : ∃ T : Int, min top (rs.length : Int) = T ∧ T ≤ 12 := ⟨_, rfl, by omega⟩
    obtain ⟨B, hBo, hBl⟩ : ∃ B : Int, min bottom (rs.length : Int) = B ∧ B ≤ 12 := ⟨_, rfl, by omega⟩
    have hsk : skin28R rs i top bottom = (rop (opf 0) (layR rs i) (spB rs (spT rs (layR rs i) i T.toNat) i B.toNat), spB rs (spT rs (layR rs i) i T.toNat) i B.toNat) := by
      unfold skin28R; rw [if_neg hi, hT, hBo]
    have HSK := Lib.hid hsk
    clear hsk hi
    go_enter Try.func17, Try.ntmps17
    go_wp2_with (go_at_call 39; (with_reducible refine (Kin.callK (W := (w.alloc (.cells #[.slice none 0 0] 29)).alloc (.cells #[.slice none 0 0] 29)) (by repeat (first | with_reducible exact Below.refl _ _ | with_reducible exact Nat.le_refl _ | with_reducible refine Kin.below _ ?_ | with_reducible refine Below.alloc ?_ ?_ _ | with_reducible refine Below.drew ?_ | with_reducible refine Kin.le _ ?_ | with_reducible refine le_alloc ?_ _ | with_reducible refine le_drew ?_ | with_reducible refine Below.setCell ?_ ?_ _ | with_reducible exact Nat.le_refl _ | (simp only [World.size_alloc]; omega) | (simp <;> omega))) (layer28_any _ rs i _ (H.out.below (by repeat (first | with_reducible exact Below.refl _ _ | with_reducible exact Nat.le_refl _ | with_reducible refine Kin.below _ ?_ | with_reducible refine Below.alloc ?_ ?_ _ | with_reducible refine Below.drew ?_ | with_reducible refine Kin.le _ ?_ | with_reducible refine le_alloc ?_ _ | with_reducible refine le_drew ?_ | with_reducible refine Below.setCell ?_ ?_ _ | with_reducible exact Nat.le_refl _ | (simp only [World.size_alloc]; omega) | (simp <;> omega)))) Hbd.out (by omega))).mono ?_); rintro e w' ⟨z, ⟨L, capL, rfl, hal⟩, hz, rfl⟩; (have HAL := Lib.hid hal; have HB1 := Lib.hid z.boxes2.1; have HB2 := Lib.hid z.boxes2.2; have q0 : (Kin.wd z).cell? ⟨w.heap.size, 0, none⟩ = some (.slice none 0 0) := HB1.out.cell 0; have qf0 : (Kin.wd z).frozen? ⟨w.heap.size, 0, none⟩ = false := HB1.out.frozen 0; have ql0 := HB1.out.lt; have q1 : (Kin.wd z).cell? ⟨w.heap.size + 1, 0, none⟩ = some (.slice none 0 0) := HB2.out.cell 0; have qf1 : (Kin.wd z).frozen? ⟨w.heap.size + 1, 0, none⟩ = false := HB2.out.frozen 0; have ql1 := HB2.out.lt; clear hal))
    go_loopw [12] (fun j wr => ∃ k : Nat, k ≤ T.toNat ∧ j = .int .i64 ((k : Int) + 1) ∧ ∃ (S : Option Addr) (n c : Nat), Hid (Blk wr (z.1.heap.size + 1) 29 #[.slice S n c]) ∧ Hid (RdReg wr (.agg #[.slice S n c]) (spT rs (layR rs i) i k)) ∧ Hid (Below (z.1.heap.size + 1) (z.1.alloc (.cells #[.slice L (layR rs i).length capL] 29)) wr)) (fun j _ => T.toNat + 1 - (intOf j).toNat)
    case atStart => exact ⟨0, Nat.zero_le _, rfl, L, _, capL, Lib.hid (blk_alloc2 _ _ _ _), Lib.hid (HAL.out.below (by repeat (first | with_reducible exact Below.refl _ _ | with_reducible exact Nat.le_refl _ | with_reducible refine Kin.below _ ?_ | with_reducible refine Below.alloc ?_ ?_ _ | with_reducible refine Below.drew ?_ | with_reducible refine Kin.le _ ?_ | with_reducible refine le_alloc ?_ _ | with_reducible refine le_drew ?_ | with_reducible refine Below.setCell ?_ ?_ _ | with_reducible exact Nat.le_refl _ | (simp only [World.size_alloc]; omega) | (simp <;> omega)))), Lib.hid (alloc_kin (Below.alloc (Below.refl _ _) (Nat.le_refl _) _))⟩
    case round =>
      obtain ⟨k, hk, rfl, S, n, c, HP, HS, hyB⟩ := hrel
      have hpl := HP.out.lt
      have hyX : Below (z.1.alloc (.cells #[.slice L (layR rs i).length capL] 29)).heap.size (z.1.alloc (.cells #[.slice L (layR rs i).length capL] 29)) wr := kin_alloc hyB.out
      obtain ⟨y, rfl⟩ : ∃ y : Kin (z.1.alloc (.cells #[.slice L (layR rs i).length capL] 29)), y.1 = wr := ⟨⟨wr, hyX⟩, rfl⟩
      clear hyB hyX
      have p0 : y.1.cell? ⟨z.1.heap.size + 1, 0, none⟩ = some (.slice S n c) := HP.out.cell 0
      by_cases hlt : (k : Int) + 1 ≤ T
      · have HRS := Lib.hid (H.out.below (show Below w.heap.size w y.1 from (by repeat (first | with_reducible exact Below.refl _ _ | with_reducible exact Nat.le_refl _ | with_reducible refine Kin.below _ ?_ | with_reducible refine Below.alloc ?_ ?_ _ | with_reducible refine Below.drew ?_ | with_reducible refine Kin.le _ ?_ | with_reducible refine le_alloc ?_ _ | with_reducible refine le_drew ?_ | with_reducible refine Below.setCell ?_ ?_ _ | with_reducible exact Nat.le_refl _ | (simp only [World.size_alloc]; omega) | (simp <;> omega)))))
        have hw2 : IntKind.i64.wrap (i + ((k : Int) + 1)) = i + ((k : Int) + 1) := IntWalk.i64_in _ (by omega)
        have HE := Lib.hid (show i + ((k : Int) + 1) = i + 1 + (k : Int) by omega)
        have hv2 := layR_valid rs (i + ((k : Int) + 1))
        have hw3 : IntKind.i64.wrap ((k : Int) + 1 + 1) = (k : Int) + 1 + 1 := IntWalk.i64_in _ (by omega)
        go_wp2
        go_region_with (first
          | (go_at_call 39; (with_reducible refine (Kin.callK (W := (Kin.wd y)) (by repeat (first | with_reducible exact Below.refl _ _ | with_reducible exact Nat.le_refl _ | with_reducible refine Kin.below _ ?_ | with_reducible refine Below.alloc ?_ ?_ _ | with_reducible refine Below.drew ?_ | with_reducible refine Kin.le _ ?_ | with_reducible refine le_alloc ?_ _ | with_reducible refine le_drew ?_ | with_reducible refine Below.setCell ?_ ?_ _ | with_reducible exact Nat.le_refl _ | (simp only [World.size_alloc]; omega) | (simp <;> omega))) (layer28_any _ rs (i + ((k : Int) + 1)) _ (HRS.out.below (by repeat (first | with_reducible exact Below.refl _ _ | with_reducible exact Nat.le_refl _ | with_reducible refine Kin.below _ ?_ | with_reducible refine Below.alloc ?_ ?_ _ | with_reducible refine Below.drew ?_ | with_reducible refine Kin.le _ ?_ | with_reducible refine le_alloc ?_ _ | with_reducible refine le_drew ?_ | with_reducible refine Below.setCell ?_ ?_ _ | with_reducible exact Nat.le_refl _ | (simp only [World.size_alloc]; omega) | (simp <;> omega)))) Hbd.out (by omega))).mono ?_); rintro e w' ⟨zl, ⟨U2, capU2, rfl, hu2⟩, hzl, rfl⟩; (have HU2 := Lib.hid hu2; clear hu2))
          | (go_at_call 40; (with_reducible refine (Kin.callK (W := (Kin.wd y)) (by repeat (first | with_reducible exact Below.refl _ _ | with_reducible exact Nat.le_refl _ | with_reducible refine Kin.below _ ?_ | with_reducible refine Below.alloc ?_ ?_ _ | with_reducible refine Below.drew ?_ | with_reducible refine Kin.le _ ?_ | with_reducible refine le_alloc ?_ _ | with_reducible refine le_drew ?_ | with_reducible refine Below.setCell ?_ ?_ _ | with_reducible exact Nat.le_refl _ | (simp only [World.size_alloc]; omega) | (simp <;> omega))) (intersect18_any _ _ (spT rs (layR rs i) i k) (layR rs (i + ((k : Int) + 1))) _ (HS.out.below (by repeat (first | with_reducible exact Below.refl _ _ | with_reducible exact Nat.le_refl _ | with_reducible refine Kin.below _ ?_ | with_reducible refine Below.alloc ?_ ?_ _ | with_reducible refine Below.drew ?_ | with_reducible refine Kin.le _ ?_ | with_reducible refine le_alloc ?_ _ | with_reducible refine le_drew ?_ | with_reducible refine Below.setCell ?_ ?_ _ | with_reducible exact Nat.le_refl _ | (simp only [World.size_alloc]; omega) | (simp <;> omega)))) (HU2.out.below (by repeat (first | with_reducible exact Below.refl _ _ | with_reducible exact Nat.le_refl _ | with_reducible refine Kin.below _ ?_ | with_reducible refine Below.alloc ?_ ?_ _ | with_reducible refine Below.drew ?_ | with_reducible refine Kin.le _ ?_ | with_reducible refine le_alloc ?_ _ | with_reducible refine le_drew ?_ | with_reducible refine Below.setCell ?_ ?_ _ | with_reducible exact Nat.le_refl _ | (simp only [World.size_alloc]; omega) | (simp <;> omega)))) (rvalid_bd (spT_valid hlv k)) (rvalid_bd hv2))).mono ?_); rintro e w' ⟨zi, ⟨R, capR, rfl, hrv⟩, hzi, rfl⟩; (have HRV := Lib.hid hrv; have HP2 := Lib.hid (HP.out.below zi.2); have p1 : (Kin.wd zi).cell? ⟨(Kin.wd z).heap.size + 1, 0, none⟩ = some (.slice S n c) := HP2.out.cell 0; have pf1 : (Kin.wd zi).frozen? ⟨(Kin.wd z).heap.size + 1, 0, none⟩ = false := HP2.out.frozen 0; have pl1 := HP2.out.lt; clear hrv)))
        all_goals
          go_wp2
          go_roundw
          case rel => exact ⟨k + 1, by omega, by go_num, _, _, _, Lib.hid (HP2.out.set_ 0 _), Lib.hid (by rw [spT, ← HE.out]; exact HRV.out.set_ HP2.out), Lib.hid (Below.setCell (alloc_kin (y.2.trans (zi.2.mono y.2.size))) (Nat.le_refl _) _)⟩
          case measure => simp [intOf]; omega
      · have ek : k = T.toNat := by omega
        rw [ek] at HS
        clear ek
        have hTn : ¬ (k : Int) + 1 ≤ T := hlt
        go_wp2
        go_loopw [13] (fun j wr => ∃ k : Nat, k ≤ B.toNat ∧ j = .int .i64 ((k : Int) + 1) ∧ ∃ (S : Option Addr) (n c : Nat), Hid (Blk wr (z.1.heap.size + 1) 29 #[.slice S n c]) ∧ Hid (RdReg wr (.agg #[.slice S n c]) (spB rs (spT rs (layR rs i) i T.toNat) i k)) ∧ Hid (Below (z.1.heap.size + 1) (z.1.alloc (.cells #[.slice L (layR rs i).length capL] 29)) wr)) (fun j _ => B.toNat + 1 - (intOf j).toNat)
        case atStart => exact ⟨0, Nat.zero_le _, rfl, S, n, c, HP, HS, Lib.hid (alloc_kin y.2)⟩
        case round =>
          clear HP HS p0 hpl
          obtain ⟨k, hk, rfl, S, n, c, HP, HS, hyB⟩ := hrel
          have hpl := HP.out.lt
          have hyX : Below (z.1.alloc (.cells #[.slice L (layR rs i).length capL] 29)).heap.size (z.1.alloc (.cells #[.slice L (layR rs i).length capL] 29)) wr := kin_alloc hyB.out
          obtain ⟨y, rfl⟩ : ∃ y : Kin (z.1.alloc (.cells #[.slice L (layR rs i).length capL] 29)), y.1 = wr := ⟨⟨wr, hyX⟩, rfl⟩
          clear hyB hyX
          have p0 : y.1.cell? ⟨z.1.heap.size + 1, 0, none⟩ = some (.slice S n c) := HP.out.cell 0
          by_cases hlt : (k : Int) + 1 ≤ B
          · have HRS := Lib.hid (H.out.below (show Below w.heap.size w y.1 from (by repeat (first | with_reducible exact Below.refl _ _ | with_reducible exact Nat.le_refl _ | with_reducible refine Kin.below _ ?_ | with_reducible refine Below.alloc ?_ ?_ _ | with_reducible refine Below.drew ?_ | with_reducible refine Kin.le _ ?_ | with_reducible refine le_alloc ?_ _ | with_reducible refine le_drew ?_ | with_reducible refine Below.setCell ?_ ?_ _ | with_reducible exact Nat.le_refl _ | (simp only [World.size_alloc]; omega) | (simp <;> omega)))))
            have hw2 : IntKind.i64.wrap (i - ((k : Int) + 1)) = i - ((k : Int) + 1) := IntWalk.i64_in _ (by omega)
            have HE := Lib.hid (show i - ((k : Int) + 1) = i - 1 - (k : Int) by omega)
            have hv2 := layR_valid rs (i - ((k : Int) + 1))
            have hw3 : IntKind.i64.wrap ((k : Int) + 1 + 1) = (k : Int) + 1 + 1 := IntWalk.i64_in _ (by omega)
            go_wp2
            go_region_with (first
              | (go_at_call 39; (with_reducible refine (Kin.callK (W := (Kin.wd y)) (by repeat (first | with_reducible exact Below.refl _ _ | with_reducible exact Nat.le_refl _ | with_reducible refine Kin.below _ ?_ | with_reducible refine Below.alloc ?_ ?_ _ | with_reducible refine Below.drew ?_ | with_reducible refine Kin.le _ ?_ | with_reducible refine le_alloc ?_ _ | with_reducible refine le_drew ?_ | with_reducible refine Below.setCell ?_ ?_ _ | with_reducible exact Nat.le_refl _ | (simp only [World.size_alloc]; omega) | (simp <;> omega))) (layer28_any _ rs (i - ((k : Int) + 1)) _ (HRS.out.below (by repeat (first | with_reducible exact Below.refl _ _ | with_reducible exact Nat.le_refl _ | with_reducible refine Kin.below _ ?_ | with_reducible refine Below.alloc ?_ ?_ _ | with_reducible refine Below.drew ?_ | with_reducible refine Kin.le _ ?_ | with_reducible refine le_alloc ?_ _ | with_reducible refine le_drew ?_ | with_reducible refine Below.setCell ?_ ?_ _ | with_reducible exact Nat.le_refl _ | (simp only [World.size_alloc]; omega) | (simp <;> omega)))) Hbd.out (by omega))).mono ?_); rintro e w' ⟨zl, ⟨U2, capU2, rfl, hu2⟩, hzl, rfl⟩; (have HU2 := Lib.hid hu2; clear hu2))
              | (go_at_call 40; (with_reducible refine (Kin.callK (W := (Kin.wd y)) (by repeat (first | with_reducible exact Below.refl _ _ | with_reducible exact Nat.le_refl _ | with_reducible refine Kin.below _ ?_ | with_reducible refine Below.alloc ?_ ?_ _ | with_reducible refine Below.drew ?_ | with_reducible refine Kin.le _ ?_ | with_reducible refine le_alloc ?_ _ | with_reducible refine le_drew ?_ | with_reducible refine Below.setCell ?_ ?_ _ | with_reducible exact Nat.le_refl _ | (simp only [World.size_alloc]; omega) | (simp <;> omega))) (intersect18_any _ _ (spB rs (spT rs (layR rs i) i T.toNat) i k) (layR rs (i - ((k : Int) + 1))) _ (HS.out.below (by repeat (first | with_reducible exact Below.refl _ _ | with_reducible exact Nat.le_refl _ | with_reducible refine Kin.below _ ?_ | with_reducible refine Below.alloc ?_ ?_ _ | with_reducible refine Below.drew ?_ | with_reducible refine Kin.le _ ?_ | with_reducible refine le_alloc ?_ _ | with_reducible refine le_drew ?_ | with_reducible refine Below.setCell ?_ ?_ _ | with_reducible exact Nat.le_refl _ | (simp only [World.size_alloc]; omega) | (simp <;> omega)))) (HU2.out.below (by repeat (first | with_reducible exact Below.refl _ _ | with_reducible exact Nat.le_refl _ | with_reducible refine Kin.below _ ?_ | with_reducible refine Below.alloc ?_ ?_ _ | with_reducible refine Below.drew ?_ | with_reducible refine Kin.le _ ?_ | with_reducible refine le_alloc ?_ _ | with_reducible refine le_drew ?_ | with_reducible refine Below.setCell ?_ ?_ _ | with_reducible exact Nat.le_refl _ | (simp only [World.size_alloc]; omega) | (simp <;> omega)))) (rvalid_bd (spB_valid (spT_valid hlv T.toNat) k)) (rvalid_bd hv2))).mono ?_); rintro e w' ⟨zi, ⟨R, capR, rfl, hrv⟩, hzi, rfl⟩; (have HRV := Lib.hid hrv; have HP2 := Lib.hid (HP.out.below zi.2); have p1 : (Kin.wd zi).cell? ⟨(Kin.wd z).heap.size + 1, 0, none⟩ = some (.slice S n c) := HP2.out.cell 0; have pf1 : (Kin.wd zi).frozen? ⟨(Kin.wd z).heap.size + 1, 0, none⟩ = false := HP2.out.frozen 0; have pl1 := HP2.out.lt; clear hrv)))
            all_goals
              go_wp2
              go_roundw
              case rel => exact ⟨k + 1, by omega, by go_num, _, _, _, Lib.hid (HP2.out.set_ 0 _), Lib.hid (by rw [spB, ← HE.out]; exact HRV.out.set_ HP2.out), Lib.hid (Below.setCell (alloc_kin (y.2.trans (zi.2.mono y.2.size))) (Nat.le_refl _) _)⟩
              case measure => simp [intOf]; omega
          · have ek : k = B.toNat := by omega
            rw [ek] at HS
            clear ek
            have HB1y := Lib.hid (HB1.out.below (show Below z.1.heap.size z.1 y.1 from (by repeat (first | with_reducible exact Below.refl _ _ | with_reducible exact Nat.le_refl _ | with_reducible refine Kin.below _ ?_ | with_reducible refine Below.alloc ?_ ?_ _ | with_reducible refine Below.drew ?_ | with_reducible refine Kin.le _ ?_ | with_reducible refine le_alloc ?_ _ | with_reducible refine le_drew ?_ | with_reducible refine Below.setCell ?_ ?_ _ | with_reducible exact Nat.le_refl _ | (simp only [World.size_alloc]; omega) | (simp <;> omega)))))
            have HB2y := Lib.hid (HB2.out.below (show Below z.1.heap.size z.1 y.1 from (by repeat (first | with_reducible exact Below.refl _ _ | with_reducible exact Nat.le_refl _ | with_reducible refine Kin.below _ ?_ | with_reducible refine Below.alloc ?_ ?_ _ | with_reducible refine Below.drew ?_ | with_reducible refine Kin.le _ ?_ | with_reducible refine le_alloc ?_ _ | with_reducible refine le_drew ?_ | with_reducible refine Below.setCell ?_ ?_ _ | with_reducible exact Nat.le_refl _ | (simp only [World.size_alloc]; omega) | (simp <;> omega)))))
            have HALy := Lib.hid (HAL.out.below (show Below z.1.heap.size z.1 y.1 from (by repeat (first | with_reducible exact Below.refl _ _ | with_reducible exact Nat.le_refl _ | with_reducible refine Kin.below _ ?_ | with_reducible refine Below.alloc ?_ ?_ _ | with_reducible refine Below.drew ?_ | with_reducible refine Kin.le _ ?_ | with_reducible refine le_alloc ?_ _ | with_reducible refine le_drew ?_ | with_reducible refine Below.setCell ?_ ?_ _ | with_reducible exact Nat.le_refl _ | (simp only [World.size_alloc]; omega) | (simp <;> omega)))))
            have r0 : y.1.cell? ⟨z.1.heap.size, 0, none⟩ = some (.slice L (layR rs i).length capL) := (y.cell (by simp)).trans (by simp)
            have rl := y.lt0 (show z.1.heap.size < (z.1.alloc (.cells #[.slice L (layR rs i).length capL] 29)).heap.size by simp)
            have s0 : y.1.cell? ⟨w.heap.size, 0, none⟩ = some (.slice none 0 0) := HB1y.out.cell 0
            have sf0 : y.1.frozen? ⟨w.heap.size, 0, none⟩ = false := HB1y.out.frozen 0
            have sl0 := HB1y.out.lt
            have s1 : y.1.cell? ⟨w.heap.size + 1, 0, none⟩ = some (.slice none 0 0) := HB2y.out.cell 0
            have sf1 : y.1.frozen? ⟨w.heap.size + 1, 0, none⟩ = false := HB2y.out.frozen 0
            have sl1 := HB2y.out.lt
            have hn1 : ¬ w.heap.size = z.1.heap.size := by omega
            have hn2 : ¬ w.heap.size = z.1.heap.size + 1 := by omega
            have hn3 : ¬ w.heap.size + 1 = z.1.heap.size := by omega
            have hn4 : ¬ w.heap.size + 1 = z.1.heap.size + 1 := by omega
            have hvB := spB_valid (rs := rs) (i := i) (spT_valid (rs := rs) (i := i) hlv T.toNat) B.toNat
            go_wp2
            go_region_held (fun w' => w'.cell? ⟨z.1.heap.size, 0, none⟩ = some (.slice L (layR rs i).length capL) ∧ w'.cell? ⟨z.1.heap.size + 1, 0, none⟩ = some (.slice S n c)) (first | exact ⟨by assumption, by assumption⟩ | simp [*, World.cell?_alloc_some, World.cell?_setCell_far]) ((go_at_call 41; (with_reducible refine (Kin.callK (W := (Kin.wd y)) (by repeat (first | with_reducible exact Below.refl _ _ | with_reducible exact Nat.le_refl _ | with_reducible refine Kin.below _ ?_ | with_reducible refine Below.alloc ?_ ?_ _ | with_reducible refine Below.drew ?_ | with_reducible refine Kin.le _ ?_ | with_reducible refine le_alloc ?_ _ | with_reducible refine le_drew ?_ | with_reducible refine Below.setCell ?_ ?_ _ | with_reducible exact Nat.le_refl _ | (simp only [World.size_alloc]; omega) | (simp <;> omega))) (subtract18_any _ _ (layR rs i) (spB rs (spT rs (layR rs i) i T.toNat) i B.toNat) _ (HALy.out.below (by repeat (first | with_reducible exact Below.refl _ _ | with_reducible exact Nat.le_refl _ | with_reducible refine Kin.below _ ?_ | with_reducible refine Below.alloc ?_ ?_ _ | with_reducible refine Below.drew ?_ | with_reducible refine Kin.le _ ?_ | with_reducible refine le_alloc ?_ _ | with_reducible refine le_drew ?_ | with_reducible refine Below.setCell ?_ ?_ _ | with_reducible exact Nat.le_refl _ | (simp only [World.size_alloc]; omega) | (simp <;> omega)))) (HS.out.below (by repeat (first | with_reducible exact Below.refl _ _ | with_reducible exact Nat.le_refl _ | with_reducible refine Kin.below _ ?_ | with_reducible refine Below.alloc ?_ ?_ _ | with_reducible refine Below.drew ?_ | with_reducible refine Kin.le _ ?_ | with_reducible refine le_alloc ?_ _ | with_reducible refine le_drew ?_ | with_reducible refine Below.setCell ?_ ?_ _ | with_reducible exact Nat.le_refl _ | (simp only [World.size_alloc]; omega) | (simp <;> omega)))) (rvalid_bd hlv) (rvalid_bd hvB))).mono ?_); rintro e w' ⟨zs, ⟨R, capR, rfl, hrv⟩, hzs, rfl⟩; (have HRV := Lib.hid hrv; have HD1 := Lib.hid (HB1y.out.below zs.2); have HD2 := Lib.hid (HB2y.out.below zs.2); have HSz := Lib.hid (HS.out.below zs.2); have k0 : (Kin.wd zs).cell? ⟨(Kin.wd z).heap.size, 0, none⟩ = some (.slice L (layR rs i).length capL) := (zs.cell rl).trans r0; have k1 : (Kin.wd zs).cell? ⟨(Kin.wd z).heap.size + 1, 0, none⟩ = some (.slice S n c) := (zs.cell hpl).trans p0; have t0 : (Kin.wd zs).cell? ⟨w.heap.size, 0, none⟩ = some (.slice none 0 0) := HD1.out.cell 0; have tf0 : (Kin.wd zs).frozen? ⟨w.heap.size, 0, none⟩ = false := HD1.out.frozen 0; have tl0 := HD1.out.lt; have t1 : (Kin.wd zs).cell? ⟨w.heap.size + 1, 0, none⟩ = some (.slice none 0 0) := HD2.out.cell 0; have tf1 : (Kin.wd zs).frozen? ⟨w.heap.size + 1, 0, none⟩ = false := HD2.out.frozen 0; have tl1 := HD2.out.lt; clear hrv)))
            go_wp2
            have f1 := HD1.out.set_ 0 (.slice R (rop (opf 0) (layR rs i) (spB rs (spT rs (layR rs i) i T.toNat) i B.toNat)).length capR)
            have f2 := HD2.out.far (p := ⟨w.heap.size, 0, none⟩) (by simp) (.slice R (rop (opf 0) (layR rs i) (spB rs (spT rs (layR rs i) i T.toNat) i B.toNat)).length capR)
            have g1 := f1.far (p := ⟨w.heap.size + 1, 0, none⟩) (by simp) (.slice S n c)
            have g2 := f2.set_ 0 (.slice S n c)
            have hr1 := (HRV.out.set_ (i := 0) (u := .slice R (rop (opf 0) (layR rs i) (spB rs (spT rs (layR rs i) i T.toNat) i B.toNat)).length capR) HD1.out).set_ (i := 0) (u := .slice S n c) f2
            have hr2 := (HSz.out.set_ (i := 0) (u := .slice R (rop (opf 0) (layR rs i) (spB rs (spT rs (layR rs i) i T.toNat) i B.toNat)).length capR) HD1.out).set_ (i := 0) (u := .slice S n c) f2
            ((try simp only [Exit.inBlock, Exit.then]); refine bodyPost_ret (results_cells2 rfl _ _ (0, 0) (0, 0) rfl (g1) rfl (g2) Try.underlying29 rfl (by kernel_rfl)) rfl ?_)
            rw [HSK.out]
            exact ⟨⟨_, _, _, _, _, _, rfl, hr1, hr2⟩, (by repeat (first | with_reducible exact Below.refl _ _ | with_reducible exact Nat.le_refl _ | with_reducible refine Kin.below _ ?_ | with_reducible refine Below.alloc ?_ ?_ _ | with_reducible refine Below.drew ?_ | with_reducible refine Kin.le _ ?_ | with_reducible refine le_alloc ?_ _ | with_reducible refine le_drew ?_ | with_reducible refine Below.setCell ?_ ?_ _ | with_reducible exact Nat.le_refl _ | (simp only [World.size_alloc]; omega) | (simp <;> omega)))⟩
end Go.Proofs.Ytfoedkdmckhihaa

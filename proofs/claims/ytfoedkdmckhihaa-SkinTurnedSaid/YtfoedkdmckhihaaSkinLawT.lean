/- SkinTurned: turning the layers upside down exchanges top and bottom: for every input the law returns true. No condition. -/
import Derived.Test.YtfoedkdmckhihaaSkinLawM
namespace Go.Proofs.Ytfoedkdmckhihaa
set_option linter.unusedSimpArgs false
set_option linter.unusedVariables false
open Go.ChangeShapes Go.WideShapes Go.ChangeAt Go.RowKit Go.Joins Runs Reg
attribute [local go_sem] Kin.cell Kin.frozen Kin.lt0 Kin.lt1 Kin.lt2 Kin.lt3 run_mkf
theorem oneReg : OneC encReg := fun x u hu => by simp [encReg] at hu; rcases hu with rfl; rfl
theorem infoReg : (Try.prog.info? 29).map (fun i => (i.zero, i.size, i.bytes)) = some (some (.agg #[.slice none 0 0]), 1, 24) := by kernel_rfl
theorem layR_rev {rs : List (List Reg.Row)} {j : Int} : layR rs.reverse ((rs.length : Int) - 1 - j) = layR rs j := by
  unfold layR
  by_cases h : 0 ≤ j ∧ j < (rs.length : Int)
  · rw [if_pos (by omega), if_pos h.1]
    have e : ((rs.length : Int) - 1 - j).toNat = rs.length - 1 - j.toNat := by omega
    rw [e, List.getElem?_reverse (by omega)]
    rw [show rs.length - 1 - (rs.length - 1 - j.toNat) = j.toNat by omega]
  · by_cases h0 : 0 ≤ j
    · rw [if_neg (by omega), if_pos h0, List.getElem?_eq_none (by omega)]
    · rw [if_neg h0]
      by_cases h1 : 0 ≤ (rs.length : Int) - 1 - j
      · rw [if_pos h1, List.getElem?_eq_none (by simp; omega)]
      · rw [if_neg h1]
theorem reg_ext {a b : List Reg.Row} (ha : rvalid a = true) (hb : rvalid b = true) (h : ∀ x y, memC a x y = memC b x y) : a = b := vreg_ext (rvalid_iff.1 ha) (rvalid_iff.1 hb) h
theorem skin_rev {rs : List (List Reg.Row)} {i : Int} (t b : Int) (hi : 0 ≤ i ∧ i < (rs.length : Int)) : skinR rs.reverse ((rs.length : Int) - 1 - i) b t = skinR rs i t b := by
  have hl := layR_valid rs i
  have hlen : rs.reverse.length = rs.length := List.length_reverse
  unfold skinR
  simp only [hlen]
  rw [if_neg (show ¬ ((rs.length : Int) - 1 - i < 0 ∨ (rs.length : Int) ≤ (rs.length : Int) - 1 - i) by omega), if_neg (show ¬ (i < 0 ∨ (rs.length : Int) ≤ i) by omega), layR_rev]
  by_cases hc : (rs.length : Int) - 1 - i < max t 0 ∨ i < max b 0
  · rw [if_pos (by omega), if_pos hc]
  · rw [if_neg (by omega), if_neg hc]
    have e : spB rs.reverse (spT rs.reverse (layR rs i) ((rs.length : Int) - 1 - i) (max b 0).toNat) ((rs.length : Int) - 1 - i) (max t 0).toNat = spB rs (spT rs (layR rs i) i (max t 0).toNat) i (max b 0).toNat := by
      refine reg_ext (spB_valid (spT_valid hl _) _) (spB_valid (spT_valid hl _) _) fun x y => ?_
      rw [memC_spB (spT_valid hl _), memC_spT hl, memC_spB (spT_valid hl _), memC_spT hl]
      have e1 : ∀ j : Nat, layR rs.reverse ((rs.length : Int) - 1 - i + 1 + (j : Int)) = layR rs (i - 1 - (j : Int)) := fun j => by
        rw [← layR_rev (rs := rs) (j := i - 1 - (j : Int))]; congr 1; omega
      have e2 : ∀ j : Nat, layR rs.reverse ((rs.length : Int) - 1 - i - 1 - (j : Int)) = layR rs (i + 1 + (j : Int)) := fun j => by
        rw [← layR_rev (rs := rs) (j := i + 1 + (j : Int))]; congr 1; omega
      simp only [e1, e2]
      rw [Bool.and_assoc, Bool.and_assoc, Bool.and_comm (List.all _ _)]
    rw [e]
theorem smallL_rev {rs : List (List Reg.Row)} (h : smallL rs = true) : smallL rs.reverse = true := by
  simp only [smallL, Bool.and_eq_true, decide_eq_true_eq, List.all_eq_true, List.length_reverse, List.mem_reverse] at *
  exact h
/-- the first j heads, turned, behind what make has laid -/
def turned (hs : List RegH) (j : Nat) : List RegH := List.replicate (hs.length - j) (none, 0, 0) ++ (hs.take j).reverse
theorem turned_succ {hs : List RegH} {j : Nat} {p : RegH} (h : hs[j]? = some p) : turned hs (j + 1) = (turned hs j).set (hs.length - 1 - j) p := by
  have hj := (List.getElem?_eq_some_iff.1 h).1
  unfold turned
  have e : hs.length - j = (hs.length - 1 - j) + 1 := by omega
  rw [List.take_add_one, h, e, List.replicate_succ', List.append_assoc, List.set_append_right _ _ (by simp)]
  simp
  omega
theorem turned_all (hs : List RegH) : turned hs hs.length = hs.reverse := by simp [turned]
theorem regs_rev {W W' : World} {v : Value} {hs : List RegH} {rs : List (List Reg.Row)} (hl : hs.length = rs.length) (h : ∀ (i : Nat) (h : RegH) (r : List Reg.Row), hs[i]? = some h → rs[i]? = some r → RdReg W (.agg #[.slice h.1 h.2.1 h.2.2]) r) (hb : Below W.heap.size W W') (hr : Rd 1 encReg W' v hs.reverse) : RdRegs W' v rs.reverse := by
  refine ⟨hs.reverse, hr, by simp [hl], fun i p r hp hq => ?_⟩
  have hi : i < hs.length := by have := (List.getElem?_eq_some_iff.1 hp).1; simpa using this
  rw [List.getElem?_reverse hi] at hp
  rw [List.getElem?_reverse (by omega), ← hl] at hq
  exact (h _ p r hp hq).below hb
set_option maxRecDepth 100000 in
set_option maxHeartbeats 8000000 in
theorem turned_walk (W : World) (v : Value) (h : IsAsk W v) : Calls Try.prog 5 #[v] W fun e W' => e = .returned (.bool true) ∧ Below W.heap.size W W' := by
  obtain ⟨s, i, t, b, rfl, _, _, _, rs, hrs⟩ := h
  have HL := Lib.hid hrs
  obtain ⟨hs, hrd, hlen, hel⟩ := hrs
  have HEL := Lib.hid hel
  obtain ⟨A, capA, rfl, hcapA, hop⟩ := hrd.open_
  have HA := Lib.hid hop
  rw [hlen] at HL hcapA ⊢
  have Hlen := Lib.hid hlen
  have hll : hs.length ≤ rs.length ∧ rs.length ≤ hs.length := by omega
  clear hop hrd hel hlen
  cases hsm : smallL rs
  · go_enter Try.func5, Try.ntmps5
    go_wp2_with (first
      | (go_at_call 14; go_loud ((with_reducible refine (Kin.callK (W := W) (by repeat (first | with_reducible exact Below.refl _ _ | with_reducible exact Nat.le_refl _ | with_reducible refine Kin.below _ ?_ | with_reducible refine Below.alloc ?_ ?_ _ | with_reducible refine Below.drew ?_ | with_reducible refine Kin.le _ ?_ | with_reducible refine le_alloc ?_ _ | with_reducible refine le_drew ?_ | with_reducible refine Below.setCell ?_ ?_ _ | with_reducible exact Nat.le_refl _ | (simp only [World.size_alloc]; omega) | (simp <;> omega))) (small28_is _ rs _ (HL.out.below (by repeat (first | with_reducible exact Below.refl _ _ | with_reducible exact Nat.le_refl _ | with_reducible refine Kin.below _ ?_ | with_reducible refine Below.alloc ?_ ?_ _ | with_reducible refine Below.drew ?_ | with_reducible refine Kin.le _ ?_ | with_reducible refine le_alloc ?_ _ | with_reducible refine le_drew ?_ | with_reducible refine Below.setCell ?_ ?_ _ | with_reducible exact Nat.le_refl _ | (simp only [World.size_alloc]; omega) | (simp <;> omega)))) hsm)).mono ?_); rintro e w' ⟨z, rfl, hz, rfl⟩))
      | (go_at_call 15; go_loud ((with_reducible refine (Kin.callK (W := W) (by repeat (first | with_reducible exact Below.refl _ _ | with_reducible exact Nat.le_refl _ | with_reducible refine Kin.below _ ?_ | with_reducible refine Below.alloc ?_ ?_ _ | with_reducible refine Below.drew ?_ | with_reducible refine Kin.le _ ?_ | with_reducible refine le_alloc ?_ _ | with_reducible refine le_drew ?_ | with_reducible refine Below.setCell ?_ ?_ _ | with_reducible exact Nat.le_refl _ | (simp only [World.size_alloc]; omega) | (simp <;> omega))) (awake28_any _)).mono ?_); rintro e w' ⟨z, rfl, hz, rfl⟩)))
    go_ret
    exact ⟨rfl, (by repeat (first | with_reducible exact Below.refl _ _ | with_reducible exact Nat.le_refl _ | with_reducible refine Kin.below _ ?_ | with_reducible refine Below.alloc ?_ ?_ _ | with_reducible refine Below.drew ?_ | with_reducible refine Kin.le _ ?_ | with_reducible refine le_alloc ?_ _ | with_reducible refine le_drew ?_ | with_reducible refine Below.setCell ?_ ?_ _ | with_reducible exact Nat.le_refl _ | (simp only [World.size_alloc]; omega) | (simp <;> omega)))⟩
  · have hbd := (smallL_bd hsm).1
    by_cases hi : 0 ≤ i ∧ i < (rs.length : Int)
    · have HSR := Lib.hid (smallL_rev hsm)
      have HRV := Lib.hid (skin_rev (rs := rs) t b hi)
      have VV := Lib.hid (skin_valid rs i t b)
      have hi1 := hi.1
      have hi2 := hi.2
      go_enter Try.func5, Try.ntmps5
      go_wp2_with (first
        | (go_at_call 14; go_loud ((with_reducible refine (Kin.callK (W := W.alloc (.cells #[.slice A rs.length capA, .int .i64 i, .int .i64 t, .int .i64 b] 24)) (by repeat (first | with_reducible exact Below.refl _ _ | with_reducible exact Nat.le_refl _ | with_reducible refine Kin.below _ ?_ | with_reducible refine Below.alloc ?_ ?_ _ | with_reducible refine Below.drew ?_ | with_reducible refine Kin.le _ ?_ | with_reducible refine le_alloc ?_ _ | with_reducible refine le_drew ?_ | with_reducible refine Below.setCell ?_ ?_ _ | with_reducible exact Nat.le_refl _ | (simp only [World.size_alloc]; omega) | (simp <;> omega))) (small28_is _ rs _ (HL.out.below (by repeat (first | with_reducible exact Below.refl _ _ | with_reducible exact Nat.le_refl _ | with_reducible refine Kin.below _ ?_ | with_reducible refine Below.alloc ?_ ?_ _ | with_reducible refine Below.drew ?_ | with_reducible refine Kin.le _ ?_ | with_reducible refine le_alloc ?_ _ | with_reducible refine le_drew ?_ | with_reducible refine Below.setCell ?_ ?_ _ | with_reducible exact Nat.le_refl _ | (simp only [World.size_alloc]; omega) | (simp <;> omega)))) hsm)).mono ?_); rintro e w' ⟨z, rfl, hz, rfl⟩))
        | (at_make; go_loud (refine wpList_mk _ rfl _ _ 22 rfl encReg_len (by decide) (none, 0, 0) (W.alloc (.cells #[.slice A rs.length capA, .int .i64 i, .int .i64 t, .int .i64 b] 24)).heap.size 29 (.agg #[.slice none 0 0]) 24 rfl infoReg Try.underlying22 .i64 .i64 _ _ (rs.length) rfl rfl (by omega) (by omega) (by omega) (by decide) (by repeat (first | with_reducible exact Nat.le_refl _ | assumption | with_reducible refine le_alloc ?_ _ | with_reducible refine le_drew ?_ | with_reducible refine Kin.le _ ?_ | assumption | omega | (simp only [World.size_alloc]; omega))) ?_; intro w1 hmk hmb hmlt; (obtain ⟨y, rfl⟩ : ∃ y : Kin (W.alloc (.cells #[.slice A rs.length capA, .int .i64 i, .int .i64 t, .int .i64 b] 24)), y.1 = w1 := ⟨⟨w1, Below.trans (by repeat (first | with_reducible exact Below.refl _ _ | with_reducible exact Nat.le_refl _ | with_reducible refine Kin.below _ ?_ | with_reducible refine Below.alloc ?_ ?_ _ | with_reducible refine Below.drew ?_ | with_reducible refine Kin.le _ ?_ | with_reducible refine le_alloc ?_ _ | with_reducible refine le_drew ?_ | with_reducible refine Below.setCell ?_ ?_ _ | with_reducible exact Nat.le_refl _ | (simp only [World.size_alloc]; omega) | (simp <;> omega))) (hmb.mono (by repeat (first | with_reducible exact Nat.le_refl _ | assumption | with_reducible refine le_alloc ?_ _ | with_reducible refine le_drew ?_ | with_reducible refine Kin.le _ ?_ | assumption | omega | (simp only [World.size_alloc]; omega))))⟩, rfl⟩); clear hmb)))
      obtain ⟨g, hg⟩ : ∃ g, g = z.1.heap.size := ⟨_, rfl⟩
      rw [← hg] at hmk hmlt ⊢
      have hgw : (W.alloc (.cells #[.slice A rs.length capA, .int .i64 i, .int .i64 t, .int .i64 b] 24)).heap.size ≤ g := by rw [hg]; exact z.2.size
      clear hg
      go_loopw [5] (fun j wr => ∃ k : Nat, k ≤ rs.length ∧ j = .int .i64 k ∧ Hid (wr.ownsRow (W.alloc (.cells #[.slice A rs.length capA, .int .i64 i, .int .i64 t, .int .i64 b] 24)).heap.size 29 1 (.slice (some ⟨g, 0, none⟩) rs.length rs.length) rs.length ((turned hs k).flatMap encReg)) ∧ Hid (Below (W.alloc (.cells #[.slice A rs.length capA, .int .i64 i, .int .i64 t, .int .i64 b] 24)).heap.size (W.alloc (.cells #[.slice A rs.length capA, .int .i64 i, .int .i64 t, .int .i64 b] 24)) wr)) (fun j _ => rs.length - (intOf j).toNat)
      case atStart => exact ⟨0, Nat.zero_le _, rfl, Lib.hid (by simpa [turned, Hlen.out] using hmk), Lib.hid y.2⟩
      case round =>
        clear hmk hmlt
        obtain ⟨k, hk, rfl, HO, hyB⟩ := hrel
        obtain ⟨y, rfl⟩ : ∃ y : Kin (W.alloc (.cells #[.slice A rs.length capA, .int .i64 i, .int .i64 t, .int .i64 b] 24)), y.1 = wr := ⟨⟨wr, hyB.out⟩, rfl⟩
        clear hyB
        have hgy := (HO.out.lt g rfl).2
        by_cases hlt : k < rs.length
        · obtain ⟨p, hp⟩ : ∃ el_, (hs)[k]? = some el_ := ⟨_, List.getElem?_eq_getElem (by first | exact (by omega) | omega)⟩
          obtain ⟨bA, offA, rfl, hbA, hcA⟩ := HA.out (k) _ hp
          have p_0 : W.cell? ⟨bA, offA + k, none⟩ = some (.slice p.1 p.2.1 p.2.2) := by have := hcA (k) _ hp 0 _ rfl; simpa using this
          have hbA2 : bA < W.heap.size + 1 := by omega
          have HAc := Lib.hid hcA
          have Hp := Lib.hid hp
          clear hp hcA
          have hown := HO.out
          obtain ⟨u0, g0⟩ := own_some hown (rs.length - 1 - k) (by omega)
          have f0 : y.1.frozen? ⟨g, (rs.length - 1 - k), none⟩ = false := hown.frozenAt _
          have HW := Lib.hid hown
          clear hown
          have hg2 : g < y.1.heap.size + 1 := by omega
          have hw1 : IntKind.i64.wrap ((rs.length : Int) - 1) = (rs.length : Int) - 1 := IntWalk.i64_in _ (by omega)
          have hw2 : IntKind.i64.wrap ((rs.length : Int) - 1 - (k : Int)) = (rs.length : Int) - 1 - (k : Int) := IntWalk.i64_in _ (by omega)
          have hw3 : ((rs.length : Int) - 1 - (k : Int)).toNat = rs.length - 1 - k := by omega
          go_wp2
          go_roundw
          case rel => exact ⟨k + 1, by omega, by go_num, Lib.hid (by rw [turned_succ Hp.out, Hlen.out]; exact own_set1 (y := p) encReg_len rfl HW.out _ (by omega)), Lib.hid (Below.setCell y.2 hgw _)⟩
          case measure => simp [intOf]; omega
        · have ek : k = hs.length := by omega
          have hr1 : Rd 1 encReg y.1 (.slice (some ⟨g, 0, none⟩) rs.length rs.length) hs.reverse := by
            have h := HO.out
            rw [ek, turned_all] at h
            exact Rd.own' encReg_len (by decide) h
          have HREV := Lib.hid (regs_rev Hlen.out HEL.out (show Below W.heap.size W y.1 from (by repeat (first | with_reducible exact Below.refl _ _ | with_reducible exact Nat.le_refl _ | with_reducible refine Kin.below _ ?_ | with_reducible refine Below.alloc ?_ ?_ _ | with_reducible refine Below.drew ?_ | with_reducible refine Kin.le _ ?_ | with_reducible refine le_alloc ?_ _ | with_reducible refine le_drew ?_ | with_reducible refine Below.setCell ?_ ?_ _ | with_reducible exact Nat.le_refl _ | (simp only [World.size_alloc]; omega) | (simp <;> omega)))) hr1)
          have HLY := Lib.hid (HL.out.below (show Below W.heap.size W y.1 from (by repeat (first | with_reducible exact Below.refl _ _ | with_reducible exact Nat.le_refl _ | with_reducible refine Kin.below _ ?_ | with_reducible refine Below.alloc ?_ ?_ _ | with_reducible refine Below.drew ?_ | with_reducible refine Kin.le _ ?_ | with_reducible refine le_alloc ?_ _ | with_reducible refine le_drew ?_ | with_reducible refine Below.setCell ?_ ?_ _ | with_reducible exact Nat.le_refl _ | (simp only [World.size_alloc]; omega) | (simp <;> omega)))))
          have e0 : y.1.cell? ⟨W.heap.size, 0, none⟩ = some (.slice A rs.length capA) := (y.cell (by simp)).trans (by simp)
          have e1 : y.1.cell? ⟨W.heap.size, 1, none⟩ = some (.int .i64 i) := (y.cell (by simp)).trans (by simp)
          have e2 : y.1.cell? ⟨W.heap.size, 2, none⟩ = some (.int .i64 t) := (y.cell (by simp)).trans (by simp)
          have e3 : y.1.cell? ⟨W.heap.size, 3, none⟩ = some (.int .i64 b) := (y.cell (by simp)).trans (by simp)
          have el : W.heap.size < y.1.heap.size := y.lt0 (by simp)
          have hw1 : IntKind.i64.wrap ((rs.length : Int) - 1) = (rs.length : Int) - 1 := IntWalk.i64_in _ (by omega)
          have hw2 : IntKind.i64.wrap ((rs.length : Int) - 1 - i) = (rs.length : Int) - 1 - i := IntWalk.i64_in _ (by omega)
          clear ek hr1
          go_wp2_with (first
            | (go_at_call 16; go_loud ((with_reducible refine (Kin.callK (W := (Kin.wd y)) (by repeat (first | with_reducible exact Below.refl _ _ | with_reducible exact Nat.le_refl _ | with_reducible refine Kin.below _ ?_ | with_reducible refine Below.alloc ?_ ?_ _ | with_reducible refine Below.drew ?_ | with_reducible refine Kin.le _ ?_ | with_reducible refine le_alloc ?_ _ | with_reducible refine le_drew ?_ | with_reducible refine Below.setCell ?_ ?_ _ | with_reducible exact Nat.le_refl _ | (simp only [World.size_alloc]; omega) | (simp <;> omega))) (skin_two _ rs i t b _ (HLY.out.below (by repeat (first | with_reducible exact Below.refl _ _ | with_reducible exact Nat.le_refl _ | with_reducible refine Kin.below _ ?_ | with_reducible refine Below.alloc ?_ ?_ _ | with_reducible refine Below.drew ?_ | with_reducible refine Kin.le _ ?_ | with_reducible refine le_alloc ?_ _ | with_reducible refine le_drew ?_ | with_reducible refine Below.setCell ?_ ?_ _ | with_reducible exact Nat.le_refl _ | (simp only [World.size_alloc]; omega) | (simp <;> omega)))) hsm)).mono ?_); rintro e w' ⟨z1, ⟨SA, nA, cA, SB, nB, cB, rfl, ha, hb⟩, hz1, rfl⟩; (have HAA := Lib.hid ha; have HB := Lib.hid hb; have lx1 := z1.lt2 (b := W.heap.size) el; clear ha hb)))
            | (go_at_call 16; go_loud ((with_reducible refine (Kin.callK (W := ((Kin.wd z1).alloc (.cells #[.slice SA nA cA] 29)).alloc (.cells #[.slice SB nB cB] 29)) (by repeat (first | with_reducible exact Below.refl _ _ | with_reducible exact Nat.le_refl _ | with_reducible refine Kin.below _ ?_ | with_reducible refine Below.alloc ?_ ?_ _ | with_reducible refine Below.drew ?_ | with_reducible refine Kin.le _ ?_ | with_reducible refine le_alloc ?_ _ | with_reducible refine le_drew ?_ | with_reducible refine Below.setCell ?_ ?_ _ | with_reducible exact Nat.le_refl _ | (simp only [World.size_alloc]; omega) | (simp <;> omega))) (skin_two _ rs.reverse ((rs.length : Int) - 1 - i) b t _ (HREV.out.below (by repeat (first | with_reducible exact Below.refl _ _ | with_reducible exact Nat.le_refl _ | with_reducible refine Kin.below _ ?_ | with_reducible refine Below.alloc ?_ ?_ _ | with_reducible refine Below.drew ?_ | with_reducible refine Kin.le _ ?_ | with_reducible refine le_alloc ?_ _ | with_reducible refine le_drew ?_ | with_reducible refine Below.setCell ?_ ?_ _ | with_reducible exact Nat.le_refl _ | (simp only [World.size_alloc]; omega) | (simp <;> omega)))) HSR.out)).mono ?_); rintro e w' ⟨z2, ⟨SC, nC, cC, SD, nD, cD, rfl, hc, hd⟩, hz2, rfl⟩; (rw [HRV.out] at hc hd; have HC := Lib.hid hc; have HD := Lib.hid hd; have d1 : (Kin.wd z2).cell? ⟨(Kin.wd z1).heap.size, 0, none⟩ = some (.slice SA nA cA) := z2.boxes2.1.cell 0; have d2 : (Kin.wd z2).cell? ⟨(Kin.wd z1).heap.size + 1, 0, none⟩ = some (.slice SB nB cB) := z2.boxes2.2.cell 0; have k1 : (Kin.wd z1).heap.size < (Kin.wd z2).heap.size := z2.boxes2.1.lt; have k2 : (Kin.wd z1).heap.size + 1 < (Kin.wd z2).heap.size := z2.boxes2.2.lt; have k1a := Nat.lt_succ_of_lt k1; have k2a := Nat.lt_succ_of_lt k2; have k1' := Nat.lt_succ_of_lt k1a; have k2' := Nat.lt_succ_of_lt k2a; clear hc hd)))
            | (go_at_call 21; go_loud ((with_reducible refine (Kin.callK (W := ((Kin.wd z2).alloc (.cells #[.slice SC nC cC] 29)).alloc (.cells #[.slice SD nD cD] 29)) (by repeat (first | with_reducible exact Below.refl _ _ | with_reducible exact Nat.le_refl _ | with_reducible refine Kin.below _ ?_ | with_reducible refine Below.alloc ?_ ?_ _ | with_reducible refine Below.drew ?_ | with_reducible refine Kin.le _ ?_ | with_reducible refine le_alloc ?_ _ | with_reducible refine le_drew ?_ | with_reducible refine Below.setCell ?_ ?_ _ | with_reducible exact Nat.le_refl _ | (simp only [World.size_alloc]; omega) | (simp <;> omega))) (same_t _ _ _ (HAA.out.below (by repeat (first | with_reducible exact Below.refl _ _ | with_reducible exact Nat.le_refl _ | with_reducible refine Kin.below _ ?_ | with_reducible refine Below.alloc ?_ ?_ _ | with_reducible refine Below.drew ?_ | with_reducible refine Kin.le _ ?_ | with_reducible refine le_alloc ?_ _ | with_reducible refine le_drew ?_ | with_reducible refine Below.setCell ?_ ?_ _ | with_reducible exact Nat.le_refl _ | (simp only [World.size_alloc]; omega) | (simp <;> omega)))) (HC.out.below (by repeat (first | with_reducible exact Below.refl _ _ | with_reducible exact Nat.le_refl _ | with_reducible refine Kin.below _ ?_ | with_reducible refine Below.alloc ?_ ?_ _ | with_reducible refine Below.drew ?_ | with_reducible refine Kin.le _ ?_ | with_reducible refine le_alloc ?_ _ | with_reducible refine le_drew ?_ | with_reducible refine Below.setCell ?_ ?_ _ | with_reducible exact Nat.le_refl _ | (simp only [World.size_alloc]; omega) | (simp <;> omega)))) VV.out.1 rfl)).mono ?_); rintro e w' ⟨z, rfl, hz, rfl⟩))
            | (go_at_call 21; go_loud ((with_reducible refine (Kin.callK (W := ((Kin.wd z2).alloc (.cells #[.slice SC nC cC] 29)).alloc (.cells #[.slice SD nD cD] 29)) (by repeat (first | with_reducible exact Below.refl _ _ | with_reducible exact Nat.le_refl _ | with_reducible refine Kin.below _ ?_ | with_reducible refine Below.alloc ?_ ?_ _ | with_reducible refine Below.drew ?_ | with_reducible refine Kin.le _ ?_ | with_reducible refine le_alloc ?_ _ | with_reducible refine le_drew ?_ | with_reducible refine Below.setCell ?_ ?_ _ | with_reducible exact Nat.le_refl _ | (simp only [World.size_alloc]; omega) | (simp <;> omega))) (same_t _ _ _ (HB.out.below (by repeat (first | with_reducible exact Below.refl _ _ | with_reducible exact Nat.le_refl _ | with_reducible refine Kin.below _ ?_ | with_reducible refine Below.alloc ?_ ?_ _ | with_reducible refine Below.drew ?_ | with_reducible refine Kin.le _ ?_ | with_reducible refine le_alloc ?_ _ | with_reducible refine le_drew ?_ | with_reducible refine Below.setCell ?_ ?_ _ | with_reducible exact Nat.le_refl _ | (simp only [World.size_alloc]; omega) | (simp <;> omega)))) (HD.out.below (by repeat (first | with_reducible exact Below.refl _ _ | with_reducible exact Nat.le_refl _ | with_reducible refine Kin.below _ ?_ | with_reducible refine Below.alloc ?_ ?_ _ | with_reducible refine Below.drew ?_ | with_reducible refine Kin.le _ ?_ | with_reducible refine le_alloc ?_ _ | with_reducible refine le_drew ?_ | with_reducible refine Below.setCell ?_ ?_ _ | with_reducible exact Nat.le_refl _ | (simp only [World.size_alloc]; omega) | (simp <;> omega)))) VV.out.2 rfl)).mono ?_); rintro e w' ⟨z, rfl, hz, rfl⟩))
            | (go_at_call 15; go_loud ((with_reducible refine (Kin.callK (W := W) (by repeat (first | with_reducible exact Below.refl _ _ | with_reducible exact Nat.le_refl _ | with_reducible refine Kin.below _ ?_ | with_reducible refine Below.alloc ?_ ?_ _ | with_reducible refine Below.drew ?_ | with_reducible refine Kin.le _ ?_ | with_reducible refine le_alloc ?_ _ | with_reducible refine le_drew ?_ | with_reducible refine Below.setCell ?_ ?_ _ | with_reducible exact Nat.le_refl _ | (simp only [World.size_alloc]; omega) | (simp <;> omega))) (awake28_any _)).mono ?_); rintro e w' ⟨z, rfl, hz, rfl⟩)))
          go_ret
          exact ⟨rfl, (by repeat (first | with_reducible exact Below.refl _ _ | with_reducible exact Nat.le_refl _ | with_reducible refine Kin.below _ ?_ | with_reducible refine Below.alloc ?_ ?_ _ | with_reducible refine Below.drew ?_ | with_reducible refine Kin.le _ ?_ | with_reducible refine le_alloc ?_ _ | with_reducible refine le_drew ?_ | with_reducible refine Below.setCell ?_ ?_ _ | with_reducible exact Nat.le_refl _ | (simp only [World.size_alloc]; omega) | (simp <;> omega)))⟩
    · have hi2 : i < 0 ∨ (rs.length : Int) ≤ i := by omega
      go_enter Try.func5, Try.ntmps5
      rcases hi2 with hi2 | hi2
      all_goals
        go_wp2_with (first
          | (go_at_call 14; go_loud ((with_reducible refine (Kin.callK (W := W.alloc (.cells #[.slice A rs.length capA, .int .i64 i, .int .i64 t, .int .i64 b] 24)) (by repeat (first | with_reducible exact Below.refl _ _ | with_reducible exact Nat.le_refl _ | with_reducible refine Kin.below _ ?_ | with_reducible refine Below.alloc ?_ ?_ _ | with_reducible refine Below.drew ?_ | with_reducible refine Kin.le _ ?_ | with_reducible refine le_alloc ?_ _ | with_reducible refine le_drew ?_ | with_reducible refine Below.setCell ?_ ?_ _ | with_reducible exact Nat.le_refl _ | (simp only [World.size_alloc]; omega) | (simp <;> omega))) (small28_is _ rs _ (HL.out.below (by repeat (first | with_reducible exact Below.refl _ _ | with_reducible exact Nat.le_refl _ | with_reducible refine Kin.below _ ?_ | with_reducible refine Below.alloc ?_ ?_ _ | with_reducible refine Below.drew ?_ | with_reducible refine Kin.le _ ?_ | with_reducible refine le_alloc ?_ _ | with_reducible refine le_drew ?_ | with_reducible refine Below.setCell ?_ ?_ _ | with_reducible exact Nat.le_refl _ | (simp only [World.size_alloc]; omega) | (simp <;> omega)))) hsm)).mono ?_); rintro e w' ⟨z, rfl, hz, rfl⟩))
          | (go_at_call 15; go_loud ((with_reducible refine (Kin.callK (W := W) (by repeat (first | with_reducible exact Below.refl _ _ | with_reducible exact Nat.le_refl _ | with_reducible refine Kin.below _ ?_ | with_reducible refine Below.alloc ?_ ?_ _ | with_reducible refine Below.drew ?_ | with_reducible refine Kin.le _ ?_ | with_reducible refine le_alloc ?_ _ | with_reducible refine le_drew ?_ | with_reducible refine Below.setCell ?_ ?_ _ | with_reducible exact Nat.le_refl _ | (simp only [World.size_alloc]; omega) | (simp <;> omega))) (awake28_any _)).mono ?_); rintro e w' ⟨z, rfl, hz, rfl⟩)))
        go_ret
        exact ⟨rfl, (by repeat (first | with_reducible exact Below.refl _ _ | with_reducible exact Nat.le_refl _ | with_reducible refine Kin.below _ ?_ | with_reducible refine Below.alloc ?_ ?_ _ | with_reducible refine Below.drew ?_ | with_reducible refine Kin.le _ ?_ | with_reducible refine le_alloc ?_ _ | with_reducible refine le_drew ?_ | with_reducible refine Below.setCell ?_ ?_ _ | with_reducible exact Nat.le_refl _ | (simp only [World.size_alloc]; omega) | (simp <;> omega)))⟩
set_option maxRecDepth 100000 in
theorem skinTurned_lifted (os : Os) (started : os.Started) (H : Type) (enc : TypeId × Value → H) :
    ReturnsInHanded {} Try.checked os 5 .any (Rows.skinTurnedSpec.pre6 enc Try.prog Try.f5 Rows.skinTurnedRow.domain false) (Rows.skinTurnedSpec.post enc Try.prog Try.f5 false true false false) := by
  refine returnsInHanded_of_change (C := Try.checked) own started (by kernel_rfl) Try.func5
    (ChangeSpec.witness6 (enc := enc) (C := Try.checked) false ⟨#[], #[.agg #[.slice none 0 0, .int .i64 0, .int .i64 0, .int .i64 0]], []⟩ 8 (by kernel_rfl) (by kernel_rfl) (by kernel_rfl) (by kernel_rfl)) ?_
  intro W base args ds gs before hval0 hW hcnd _
  have hval : ∀ (j : Nat) t v, Try.f5.params[j]? = some t → args[j]? = some v → Value.okWide Try.prog W .any base t v := hval0
  have hW' := hW
  obtain ⟨p, q, hA0, hV, rfl, hfz, hnd⟩ := hW
  have hA : DataW.TrodAll enc Try.prog W 0 (fun _ => true) true Try.f5.params.toList args.toList ds p := hA0
  rw [Try.params5] at hA hval
  have hAA := hA
  obtain ⟨v0, vs0, d0, ds0, p0, q0, hargs, rfl, rfl, h0, r0⟩ := trodAll_cons hA
  obtain ⟨rfl, rfl, rfl⟩ := trodAll_nil r0
  obtain rfl : args = #[v0] := by cases args; simp_all
  obtain ⟨rfl, rfl⟩ := trodVars_none hV
  have o0 := open_ask (hval 0 24 v0 rfl rfl) h0
  have hlt : ∀ x ∈ p0 ++ [], x.block < W.heap.size := fun x hx => hW'.lt x (by simpa using hx)
  refine (turned_walk W _ o0).mono fun e W' ⟨he, bel⟩ => ?_
  subst he
  exact ⟨_, rfl, _, _, _, [], _, [], hW', trodAll_mk1 (shut_bool Try.underlying4 _), below_trodAll laidOut bel _ _ _ _ (by
    intro t ht
    have hcl : ([24] : List TypeId).all (fun t => Try.prog.readableRec t && decide (t < Try.prog.types.size)) = true := by kernel_rfl
    have := List.all_eq_true.1 hcl t ht
    simpa using this) hlt hAA, rfl, bel.frame _, fun h => by cases h⟩
/-- SkinTurned: for every input the call returns true, and the arguments read behind it as before. No condition. -/
theorem skinTurned_holds : Rows.SkinTurnedSaid :=
  OpenClaim.holds_of_wide 5 Try.f5 rfl rfl rfl rfl rfl rfl rfl ⟨rfl, rfl, rfl, rfl, rfl⟩ rfl rfl rfl rfl rfl (by kernel_rfl) Try.func5 (by kernel_rfl)
    (of_decide_eq_true (by kernel_rfl)) (by unfold Func.isWrapper; rw [if_neg (of_decide_eq_false (by kernel_rfl))]; exact ⟨rfl, rfl⟩)
    (fun os started H enc _ => skinTurned_lifted os started H enc)

end Go.Proofs.Ytfoedkdmckhihaa

/- SkinCovers: sparse cells have the required number of layers of the part above and below them: for every input the law returns true. No condition. -/
import Derived.Test.YtfoedkdmckhihaaSkinLawD
import Derived.Test.YtfoedkdmckhihaaRegCells
namespace Go.Proofs.Ytfoedkdmckhihaa
set_option linter.unusedSimpArgs false
set_option linter.unusedVariables false
open Go.ChangeShapes Go.WideShapes Go.ChangeAt Go.RowKit Go.Joins Runs Reg
attribute [local go_sem] Kin.cell Kin.frozen Kin.lt0 Kin.lt1 Kin.lt2 Kin.lt3 run_mkf
theorem layR_out {rs : List (List Reg.Row)} {i : Int} (h : i < 0 ∨ (rs.length : Int) ≤ i) : layR rs i = [] := by
  unfold layR
  split
  · rw [List.getElem?_eq_none (by omega)]
  · rfl
/-- whether a cell lies in the n layers from lo on -/
def dp (rs : List (List Reg.Row)) (lo x y : Int) (n : Nat) : Bool := (List.range n).all fun j => memC (layR rs (lo + (j : Int))) x y
theorem dp_succ (rs : List (List Reg.Row)) (lo x y : Int) (n : Nat) : dp rs lo x y (n + 1) = (dp rs lo x y n && memC (layR rs (lo + (n : Int))) x y) := by
  simp [dp, List.range_succ]
theorem dp_out {rs : List (List Reg.Row)} {lo x y I : Int} {n : Nat} (hI : I = lo + (n : Int)) (h : I < 0 ∨ (rs.length : Int) ≤ I) : dp rs lo x y (n + 1) = false := by
  rw [dp_succ, layR_out (by omega), memC_nil, Bool.and_false]
theorem dp_no {rs : List (List Reg.Row)} {lo x y : Int} {n : Nat} (h : dp rs lo x y n = false) : dp rs lo x y (n + 1) = false := by rw [dp_succ, h]; rfl
theorem dp_in {rs : List (List Reg.Row)} {lo x y : Int} {n m : Nat} {r : List Reg.Row} {b : Bool} (h : dp rs lo x y n = true) (hm : (m : Int) = lo + (n : Int)) (hr : rs[m]? = some r) (hb : (rvalid r && memC r x y) = b) : dp rs lo x y (n + 1) = b := by
  rw [dp_succ, h, ← hm, ← hb, Bool.true_and]
  have e : layR rs (m : Int) = if rvalid r then r else [] := by simp [layR, hr]
  rw [e]
  cases rvalid r
  · simp [memC_nil]
  · simp
theorem skin_deep {rs : List (List Reg.Row)} {i t b : Int} {U D : Nat} (hU : max 0 (min t 20) = (U : Int)) (hD : max 0 (min b 20) = (D : Int)) (hi : 0 ≤ i ∧ i < (rs.length : Int)) (hl : rs.length ≤ 12) (x y : Int) :
    memC (skinR rs i t b).2 x y = dp rs (i - D) x y (D + U + 1) := by
  have hv := layR_valid rs i
  unfold skinR
  rw [if_neg (by omega)]
  by_cases h2 : (rs.length : Int) - 1 - i < max t 0 ∨ i < max b 0
  · rw [if_pos h2, memC_nil]
    symm
    rw [dp, List.all_eq_false]
    rcases h2 with h2 | h2
    · exact ⟨(D + ((rs.length : Int) - i).toNat), List.mem_range.2 (by omega), by rw [layR_out (by omega), memC_nil]; decide⟩
    · exact ⟨(D : Nat) - (i.toNat + 1), List.mem_range.2 (by omega), by rw [layR_out (by omega), memC_nil]; decide⟩
  · rw [if_neg h2]
    have eU : (max t 0).toNat = U := by omega
    have eD : (max b 0).toNat = D := by omega
    simp only
    rw [eU, eD, memC_spB (spT_valid hv _), memC_spT hv, Bool.eq_iff_iff, dp]
    simp only [Bool.and_eq_true, List.all_eq_true, List.mem_range]
    constructor
    · rintro ⟨⟨h3, h4⟩, h5⟩ j hj
      rcases Nat.lt_trichotomy j D with h6 | h6 | h6
      · have := h5 (D - 1 - j) (by omega)
        rwa [show i - 1 - ((D - 1 - j : Nat) : Int) = i - D + j by omega] at this
      · rwa [show i - (D : Int) + (j : Int) = i by omega]
      · have := h4 (j - D - 1) (by omega)
        rwa [show i + 1 + ((j - D - 1 : Nat) : Int) = i - D + j by omega] at this
    · intro h
      refine ⟨⟨?_, fun j hj => ?_⟩, fun j hj => ?_⟩
      · have := h D (by omega)
        rwa [show i - (D : Int) + (D : Int) = i by omega] at this
      · have := h (D + 1 + j) (by omega)
        rwa [show i - (D : Int) + ((D + 1 + j : Nat) : Int) = i + 1 + j by omega] at this
      · have := h (D - 1 - j) (by omega)
        rwa [show i - (D : Int) + ((D - 1 - j : Nat) : Int) = i - 1 - j by omega] at this
theorem skin_or {rs : List (List Reg.Row)} {i : Int} (t b : Int) (h : 0 ≤ i ∧ i < (rs.length : Int)) (x y : Int) :
    memC (layR rs i) x y = (memC (skinR rs i t b).1 x y || memC (skinR rs i t b).2 x y) ∧ (memC (skinR rs i t b).1 x y && memC (skinR rs i t b).2 x y) = false := by
  have hd := skin_divide t b h
  have hv := skin_valid rs i t b
  constructor
  · rw [← hd.1, memC_rop (opf_ff 2) hv.1 hv.2]; rfl
  · have := memC_rop (opf_ff 1) hv.1 hv.2 x y
    rw [hd.2, memC_nil] at this
    exact this.symm
theorem cntR_lay {rs : List (List Reg.Row)} {k : Nat} {r : List Reg.Row} (hr : rs[k]? = some r) : cntR (layR rs (k : Int)) = cntR r := by
  have e : layR rs (k : Int) = if rvalid r then r else [] := by simp [layR, hr]
  rw [e]
  cases hv : rvalid r
  · simp [cntR, hv, rvalid_nil, sumR]
  · simp
theorem skin_cnt {rs : List (List Reg.Row)} {k : Nat} {r : List Reg.Row} (t b : Int) (hr : rs[k]? = some r) : cntR (skinR rs k t b).1 + cntR (skinR rs k t b).2 = ((cellsR r).length : Int) := by
  have hk := (List.getElem?_eq_some_iff.1 hr).1
  have hi : 0 ≤ (k : Int) ∧ (k : Int) < (rs.length : Int) := by omega
  rw [cellsR_len, ← cntR_lay hr]
  have hv := skin_valid rs k t b
  exact cntR_add hv.1 hv.2 (layR_valid _ _) (fun x y => (skin_or t b hi x y).1) (fun x y h => by have := (skin_or t b hi x y).2; rw [h] at this; simpa using this)
/-- what the two regions say about a cell of the layer -/
theorem skin_cell {rs : List (List Reg.Row)} {k : Nat} {r : List Reg.Row} {t b x y : Int} {U D : Nat} {d : Bool} (hr : rs[k]? = some r) (hc : (x, y) ∈ cellsR r) (hU : max 0 (min t 20) = (U : Int)) (hD : max 0 (min b 20) = (D : Int)) (hl : rs.length ≤ 12) (hd : dp rs (k - D) x y (D + U + 1) = d) :
    (rvalid (skinR rs k t b).1 && memC (skinR rs k t b).1 x y) = (!d) ∧ (rvalid (skinR rs k t b).2 && memC (skinR rs k t b).2 x y) = d := by
  have hk := (List.getElem?_eq_some_iff.1 hr).1
  have hi : 0 ≤ (k : Int) ∧ (k : Int) < (rs.length : Int) := by omega
  obtain ⟨h1, h2⟩ := mem_cellsR.1 hc
  have e : layR rs (k : Int) = r := by simp [layR, hr, h1]
  have h3 := skin_or t b hi x y
  rw [e, h2] at h3
  have hv := skin_valid rs k t b
  have h4 := skin_deep hU hD hi hl x y
  rw [hd] at h4
  rw [h4] at h3
  rw [hv.1, hv.2, h4]
  have tt : ∀ p d : Bool, true = (p || d) → (p && d) = false → p = !d := by decide
  exact ⟨by rw [Bool.true_and]; exact tt _ _ h3.1 h3.2, Bool.true_and _⟩
theorem contains18_is {b : Bool} (v : Value) (rows : List Reg.Row) (x y : Int) (w : World) (h : RdReg w v rows) (hbd : RBd rows) (hb : (rvalid rows && memC rows x y) = b) :
    Calls Try.prog 23 #[v, .agg #[.int .i64 x, .int .i64 y]] w fun e w' => e = .returned (.bool b) ∧ Below w.heap.size w w' := by subst hb; exact contains18_any v rows x y w h hbd
theorem containsC_is {b : Bool} (v : Value) (rows : List Reg.Row) (x y : Int) (w : World) (h : RdReg w v rows) (hbd : RBd rows) (hb : (rvalid rows && memC rows x y) = b) :
    Calls Try.prog 24 #[v, .agg #[.int .i64 x, .int .i64 y]] w fun e w' => e = .returned (.bool b) ∧ Below w.heap.size w w' := by subst hb; exact containsC_any v rows x y w h hbd
set_option maxRecDepth 100000 in
set_option maxHeartbeats 16000000 in
theorem covers_walk (W : World) (v : Value) (h : IsAsk W v) : Calls Try.prog 6 #[v] W fun e W' => e = .returned (.bool true) ∧ Below W.heap.size W W' := by
  obtain ⟨s, i, t, b, rfl, _, _, _, rs, hrs⟩ := h
  obtain ⟨L, capL, rfl, hcapL, hop⟩ := regs_open hrs
  have HL := Lib.hid hrs
  clear hrs
  cases hsm : smallL rs
  · clear hop
    go_enter Try.func6, Try.ntmps6
    go_wp2_with (first
      | (go_at_call 14; (with_reducible refine (Kin.callK (W := W) (by repeat (first | with_reducible exact Below.refl _ _ | with_reducible exact Nat.le_refl _ | with_reducible refine Kin.below _ ?_ | with_reducible refine Below.alloc ?_ ?_ _ | with_reducible refine Below.drew ?_ | with_reducible refine Kin.le _ ?_ | with_reducible refine le_alloc ?_ _ | with_reducible refine le_drew ?_ | with_reducible refine Below.setCell ?_ ?_ _ | with_reducible exact Nat.le_refl _ | (simp only [World.size_alloc]; omega) | (simp <;> omega))) (small28_is _ rs _ (HL.out.below (by repeat (first | with_reducible exact Below.refl _ _ | with_reducible exact Nat.le_refl _ | with_reducible refine Kin.below _ ?_ | with_reducible refine Below.alloc ?_ ?_ _ | with_reducible refine Below.drew ?_ | with_reducible refine Kin.le _ ?_ | with_reducible refine le_alloc ?_ _ | with_reducible refine le_drew ?_ | with_reducible refine Below.setCell ?_ ?_ _ | with_reducible exact Nat.le_refl _ | (simp only [World.size_alloc]; omega) | (simp <;> omega)))) hsm)).mono ?_); rintro e w' ⟨z, rfl, hz, rfl⟩)
      | (go_at_call 15; (with_reducible refine (Kin.callK (W := W) (by repeat (first | with_reducible exact Below.refl _ _ | with_reducible exact Nat.le_refl _ | with_reducible refine Kin.below _ ?_ | with_reducible refine Below.alloc ?_ ?_ _ | with_reducible refine Below.drew ?_ | with_reducible refine Kin.le _ ?_ | with_reducible refine le_alloc ?_ _ | with_reducible refine le_drew ?_ | with_reducible refine Below.setCell ?_ ?_ _ | with_reducible exact Nat.le_refl _ | (simp only [World.size_alloc]; omega) | (simp <;> omega))) (awake28_any _)).mono ?_); rintro e w' ⟨z, rfl, hz, rfl⟩))
    go_ret
    exact ⟨rfl, (by repeat (first | with_reducible exact Below.refl _ _ | with_reducible exact Nat.le_refl _ | with_reducible refine Kin.below _ ?_ | with_reducible refine Below.alloc ?_ ?_ _ | with_reducible refine Below.drew ?_ | with_reducible refine Kin.le _ ?_ | with_reducible refine le_alloc ?_ _ | with_reducible refine le_drew ?_ | with_reducible refine Below.setCell ?_ ?_ _ | with_reducible exact Nat.le_refl _ | (simp only [World.size_alloc]; omega) | (simp <;> omega)))⟩
  · have hbd := smallL_bd hsm
    by_cases hi : 0 ≤ i ∧ i < (rs.length : Int)
    · obtain ⟨k, rfl⟩ : ∃ k : Nat, i = (k : Int) := ⟨i.toNat, by omega⟩
      have hk : k < rs.length := by omega
      obtain ⟨r, hr⟩ : ∃ el_, rs[k]? = some el_ := ⟨_, List.getElem?_eq_getElem hk⟩
      obtain ⟨bL, offL, rfl, hbL, hc⟩ := hop k _ hr
      obtain ⟨S, n, c, h1, h2⟩ := hc k r hr
      have Hr := Lib.hid hr
      have HRd := Lib.hid h2
      have Hbd := Lib.hid hbd.2
      have hbr := Lib.hid (hbd.2 r (List.mem_of_getElem? hr))
      have hll := hbd.1
      have hbL2 : bL < W.heap.size + 1 := by omega
      have HC1 := Lib.hid (skin_cnt (rs := rs) (k := k) t b hr)
      have HV := Lib.hid (skin_valid rs k t b)
      obtain ⟨cl, hcl⟩ : ∃ cl, cl = cellsR r := ⟨_, rfl⟩
      have HCL := Lib.hid hcl
      have hcll : (cl.length : Int) ≤ 67108864 := by rw [hcl, cellsR_len]; exact (cntR_bd r).2
      obtain ⟨U, hU, hU20⟩ : ∃ U : Nat, max 0 (min t 20) = (U : Int) ∧ U ≤ 20 := ⟨(max 0 (min t 20)).toNat, by omega, by omega⟩
      obtain ⟨D, hD, hD20⟩ : ∃ D : Nat, max 0 (min b 20) = (D : Int) ∧ D ≤ 20 := ⟨(max 0 (min b 20)).toNat, by omega, by omega⟩
      have HU := Lib.hid hU
      have HD := Lib.hid hD
      clear hop hr hc h2 hbd hcl
      go_enter Try.func6, Try.ntmps6
      go_wp2_with (first
        | (go_at_call 14; (with_reducible refine (Kin.callK (W := W.alloc (.cells #[.slice (some ⟨bL, offL, none⟩) rs.length capL, .int .i64 k, .int .i64 t, .int .i64 b] 24)) (by repeat (first | with_reducible exact Below.refl _ _ | with_reducible exact Nat.le_refl _ | with_reducible refine Kin.below _ ?_ | with_reducible refine Below.alloc ?_ ?_ _ | with_reducible refine Below.drew ?_ | with_reducible refine Kin.le _ ?_ | with_reducible refine le_alloc ?_ _ | with_reducible refine le_drew ?_ | with_reducible refine Below.setCell ?_ ?_ _ | with_reducible exact Nat.le_refl _ | (simp only [World.size_alloc]; omega) | (simp <;> omega))) (small28_is _ rs _ (HL.out.below (by repeat (first | with_reducible exact Below.refl _ _ | with_reducible exact Nat.le_refl _ | with_reducible refine Kin.below _ ?_ | with_reducible refine Below.alloc ?_ ?_ _ | with_reducible refine Below.drew ?_ | with_reducible refine Kin.le _ ?_ | with_reducible refine le_alloc ?_ _ | with_reducible refine le_drew ?_ | with_reducible refine Below.setCell ?_ ?_ _ | with_reducible exact Nat.le_refl _ | (simp only [World.size_alloc]; omega) | (simp <;> omega)))) hsm)).mono ?_); rintro e w' ⟨z, rfl, hz, rfl⟩)
        | (go_at_call 16; (with_reducible refine (Kin.callK (W := W.alloc (.cells #[.slice (some ⟨bL, offL, none⟩) rs.length capL, .int .i64 k, .int .i64 t, .int .i64 b] 24)) (by repeat (first | with_reducible exact Below.refl _ _ | with_reducible exact Nat.le_refl _ | with_reducible refine Kin.below _ ?_ | with_reducible refine Below.alloc ?_ ?_ _ | with_reducible refine Below.drew ?_ | with_reducible refine Kin.le _ ?_ | with_reducible refine le_alloc ?_ _ | with_reducible refine le_drew ?_ | with_reducible refine Below.setCell ?_ ?_ _ | with_reducible exact Nat.le_refl _ | (simp only [World.size_alloc]; omega) | (simp <;> omega))) (skin_two _ rs k t b _ (HL.out.below (by repeat (first | with_reducible exact Below.refl _ _ | with_reducible exact Nat.le_refl _ | with_reducible refine Kin.below _ ?_ | with_reducible refine Below.alloc ?_ ?_ _ | with_reducible refine Below.drew ?_ | with_reducible refine Kin.le _ ?_ | with_reducible refine le_alloc ?_ _ | with_reducible refine le_drew ?_ | with_reducible refine Below.setCell ?_ ?_ _ | with_reducible exact Nat.le_refl _ | (simp only [World.size_alloc]; omega) | (simp <;> omega)))) hsm)).mono ?_); rintro e w' ⟨z1, ⟨SA, nA, cA, SB, nB, cB, rfl, ha, hb⟩, hz1, rfl⟩; (have HA := Lib.hid ha; have HB := Lib.hid hb; clear ha hb)))
      obtain ⟨y9, hX⟩ : ∃ y9 : Kin (W.alloc (.cells #[.slice (some ⟨bL, offL, none⟩) rs.length capL, .int .i64 k, .int .i64 t, .int .i64 b] 24)), y9.1 = (z1.1.alloc (.cells #[.slice SA nA cA] 29)).alloc (.cells #[.slice SB nB cB] 29) := ⟨⟨(z1.1.alloc (.cells #[.slice SA nA cA] 29)).alloc (.cells #[.slice SB nB cB] 29), (by repeat (first | with_reducible exact Below.refl _ _ | with_reducible exact Nat.le_refl _ | with_reducible refine Kin.below _ ?_ | with_reducible refine Below.alloc ?_ ?_ _ | with_reducible refine Below.drew ?_ | with_reducible refine Kin.le _ ?_ | with_reducible refine le_alloc ?_ _ | with_reducible refine le_drew ?_ | with_reducible refine Below.setCell ?_ ?_ _ | with_reducible exact Nat.le_refl _ | (simp only [World.size_alloc]; omega) | (simp <;> omega)))⟩, rfl⟩
      rw [← hX]
      have h1X : Below z1.1.heap.size z1.1 y9.1 := by rw [hX]; exact (by repeat (first | with_reducible exact Below.refl _ _ | with_reducible exact Nat.le_refl _ | with_reducible refine Kin.below _ ?_ | with_reducible refine Below.alloc ?_ ?_ _ | with_reducible refine Below.drew ?_ | with_reducible refine Kin.le _ ?_ | with_reducible refine le_alloc ?_ _ | with_reducible refine le_drew ?_ | with_reducible refine Below.setCell ?_ ?_ _ | with_reducible exact Nat.le_refl _ | (simp only [World.size_alloc]; omega) | (simp <;> omega)))
      have e0 : y9.1.cell? ⟨W.heap.size, 0, none⟩ = some (.slice (some ⟨bL, offL, none⟩) rs.length capL) := (y9.cell (by simp)).trans (by simp)
      have e1 : y9.1.cell? ⟨W.heap.size, 1, none⟩ = some (.int .i64 k) := (y9.cell (by simp)).trans (by simp)
      have e2 : y9.1.cell? ⟨W.heap.size, 2, none⟩ = some (.int .i64 t) := (y9.cell (by simp)).trans (by simp)
      have e3 : y9.1.cell? ⟨W.heap.size, 3, none⟩ = some (.int .i64 b) := (y9.cell (by simp)).trans (by simp)
      have el : W.heap.size < y9.1.heap.size := y9.lt0 (by simp)
      have e4 : y9.1.cell? ⟨z1.1.heap.size, 0, none⟩ = some (.slice SA nA cA) := by rw [hX]; simp
      have e5 : y9.1.cell? ⟨z1.1.heap.size + 1, 0, none⟩ = some (.slice SB nB cB) := by rw [hX]; simp
      have el2 : z1.1.heap.size < y9.1.heap.size := by rw [hX]; simp; omega
      have el3 : z1.1.heap.size + 1 < y9.1.heap.size := by rw [hX]; simp
      have e6 : y9.1.cell? ⟨bL, offL + k, none⟩ = some (.slice S n c) := (y9.cell (by simp; omega)).trans ((World.cell?_alloc_lt _ _ _ hbL).trans h1)
      have el4 : bL < y9.1.heap.size := y9.lt0 (by simp; omega)
      have HAX := Lib.hid (HA.out.below h1X)
      have HBX := Lib.hid (HB.out.below h1X)
      have HRX := Lib.hid (HRd.out.below (show Below W.heap.size W y9.1 from (by repeat (first | with_reducible exact Below.refl _ _ | with_reducible exact Nat.le_refl _ | with_reducible refine Kin.below _ ?_ | with_reducible refine Below.alloc ?_ ?_ _ | with_reducible refine Below.drew ?_ | with_reducible refine Kin.le _ ?_ | with_reducible refine le_alloc ?_ _ | with_reducible refine le_drew ?_ | with_reducible refine Below.setCell ?_ ?_ _ | with_reducible exact Nat.le_refl _ | (simp only [World.size_alloc]; omega) | (simp <;> omega)))))
      have HLX := Lib.hid (regs_op (HL.out.below (show Below W.heap.size W y9.1 from (by repeat (first | with_reducible exact Below.refl _ _ | with_reducible exact Nat.le_refl _ | with_reducible refine Kin.below _ ?_ | with_reducible refine Below.alloc ?_ ?_ _ | with_reducible refine Below.drew ?_ | with_reducible refine Kin.le _ ?_ | with_reducible refine le_alloc ?_ _ | with_reducible refine le_drew ?_ | with_reducible refine Below.setCell ?_ ?_ _ | with_reducible exact Nat.le_refl _ | (simp only [World.size_alloc]; omega) | (simp <;> omega))))))
      obtain ⟨pa, hpa⟩ : ∃ pa, pa = z1.1.heap.size := ⟨_, rfl⟩
      rw [← hpa] at e4 e5 el2 el3 ⊢
      clear h1X hX h1 hpa
      ((refine wp_region_kinK (W := (Kin.wd y9)) (by kernel_rfl) (by kernel_rfl) (by repeat (first | with_reducible exact Below.refl _ _ | with_reducible exact Nat.le_refl _ | with_reducible refine Kin.below _ ?_ | with_reducible refine Below.alloc ?_ ?_ _ | with_reducible refine Below.drew ?_ | with_reducible refine Kin.le _ ?_ | with_reducible refine le_alloc ?_ _ | with_reducible refine le_drew ?_ | with_reducible refine Below.setCell ?_ ?_ _ | with_reducible exact Nat.le_refl _ | (simp only [World.size_alloc]; omega) | (simp <;> omega))) ?_); (repeat' (first | go_big_quiet_step (fail) | ((refine wpQuiet_guard rfl rfl rfl rfl (fun hg => ?_) (fun hg => ?_)) <;> (fail_if_success (first | guard_hyp hg : true = true | guard_hyp hg : false = false)) <;> (try simp only [decide_eq_true_eq, decide_eq_false_iff_not] at hg) <;> simp only [Act.put, List.setIfInBounds_toArray, List.set_cons_zero, List.set_cons_succ]))); all_goals ((with_reducible refine wpQuiet_nil ?_); intro zq hz))
      go_wp2_with (go_at_call 22; (with_reducible refine (Kin.callK (W := (Kin.wd y9)) (by repeat (first | with_reducible exact Below.refl _ _ | with_reducible exact Nat.le_refl _ | with_reducible refine Kin.below _ ?_ | with_reducible refine Below.alloc ?_ ?_ _ | with_reducible refine Below.drew ?_ | with_reducible refine Kin.le _ ?_ | with_reducible refine le_alloc ?_ _ | with_reducible refine le_drew ?_ | with_reducible refine Below.setCell ?_ ?_ _ | with_reducible exact Nat.le_refl _ | (simp only [World.size_alloc]; omega) | (simp <;> omega))) (cells18_any _ r _ (HRX.out.below (by repeat (first | with_reducible exact Below.refl _ _ | with_reducible exact Nat.le_refl _ | with_reducible refine Kin.below _ ?_ | with_reducible refine Below.alloc ?_ ?_ _ | with_reducible refine Below.drew ?_ | with_reducible refine Kin.le _ ?_ | with_reducible refine le_alloc ?_ _ | with_reducible refine le_drew ?_ | with_reducible refine Below.setCell ?_ ?_ _ | with_reducible exact Nat.le_refl _ | (simp only [World.size_alloc]; omega) | (simp <;> omega)))) hbr.out)).mono ?_); rintro e w' ⟨z2, ⟨lv, rfl, hl⟩, hz2, rfl⟩; (rw [← HCL.out] at hl))
      have k0 : z2.1.cell? ⟨W.heap.size, 0, none⟩ = some (.slice (some ⟨bL, offL, none⟩) rs.length capL) := (z2.cell el).trans e0
      have k1 : z2.1.cell? ⟨W.heap.size, 1, none⟩ = some (.int .i64 k) := (z2.cell el).trans e1
      have k4 : z2.1.cell? ⟨pa, 0, none⟩ = some (.slice SA nA cA) := (z2.cell el2).trans e4
      have k5 : z2.1.cell? ⟨pa + 1, 0, none⟩ = some (.slice SB nB cB) := (z2.cell el3).trans e5
      have kl := z2.lt0 el
      have kl2 := z2.lt0 el2
      have kl3 := z2.lt0 el3
      have kl4 := z2.lt0 el4
      have HAZ := Lib.hid (HAX.out.below z2.2)
      have HBZ := Lib.hid (HBX.out.below z2.2)
      have HLZ := Lib.hid (regs_op ((HL.out.below (show Below W.heap.size W y9.1 from (by repeat (first | with_reducible exact Below.refl _ _ | with_reducible exact Nat.le_refl _ | with_reducible refine Kin.below _ ?_ | with_reducible refine Below.alloc ?_ ?_ _ | with_reducible refine Below.drew ?_ | with_reducible refine Kin.le _ ?_ | with_reducible refine le_alloc ?_ _ | with_reducible refine le_drew ?_ | with_reducible refine Below.setCell ?_ ?_ _ | with_reducible exact Nat.le_refl _ | (simp only [World.size_alloc]; omega) | (simp <;> omega))))).below z2.2))
      clear e0 e1 e2 e3 e4 e5 e6 HLX
      have hw1 : IntKind.i64.wrap ((k : Int) - (D : Int)) = (k : Int) - (D : Int) := IntWalk.i64_in _ (by omega)
      have hw2 : IntKind.i64.wrap ((k : Int) + (U : Int)) = (k : Int) + (U : Int) := IntWalk.i64_in _ (by omega)
      obtain ⟨C, capC, rfl, hcapC, hopC⟩ := hl.open_
      have HC := Lib.hid hopC
      have HLC := Lib.hid hl
      clear hopC hl
      go_loopw [8] (fun i wr => ∃ j : Nat, j ≤ cl.length ∧ i = .int .i64 j ∧ ∃ z : Kin z2.1, z.1 = wr) (fun i _ => cl.length - (intOf i).toNat)
      case atStart => exact ⟨0, Nat.zero_le _, rfl, ⟨_, Below.refl _ _⟩, rfl⟩
      case round =>
        obtain ⟨j, hj, rfl, z3, rfl⟩ := hrel
        by_cases hlt : j < cl.length
        · obtain ⟨p, hp⟩ : ∃ el_, (cl)[j]? = some el_ := ⟨_, List.getElem?_eq_getElem (by first | exact hlt | omega)⟩
          obtain ⟨bC, offC, rfl, hbC, hcC⟩ := HC.out (j) _ hp
          have p_0 : z2.1.cell? ⟨bC, offC + j * 2, none⟩ = some (.int .i64 p.1) := by exact hcC (j) _ hp 0 _ rfl
          have p_1 : z2.1.cell? ⟨bC, offC + j * 2 + 1, none⟩ = some (.int .i64 p.2) := by exact hcC (j) _ hp 1 _ rfl
          have hbC2 : bC < z2.1.heap.size + 1 := by omega
          have HCc := Lib.hid hcC
          have Hp := Lib.hid hp
          clear hp hcC
          have hpm : p ∈ cellsR r := by rw [← HCL.out]; exact List.mem_of_getElem? Hp.out
          have HPM := Lib.hid hpm
          have hwj : IntKind.i64.wrap ((j : Int) + 1) = (j : Int) + 1 := IntWalk.i64_in _ (by omega)
          clear hpm
          go_wp2
          go_loopw [9, 10] (fun d I wr => ∃ (n : Nat) (Iv : Int), n ≤ D + U + 1 ∧ I = .int .i64 Iv ∧ Hid (Iv = (k : Int) - (D : Int) + (n : Int)) ∧ d = .bool (dp rs ((k : Int) - (D : Int)) p.1 p.2 n) ∧ ∃ z : Kin z2.1, z.1 = wr) (fun _ I _ => ((k : Int) + (U : Int) + 1 - intOf I).toNat)
          case atStart => exact ⟨0, _, Nat.zero_le _, rfl, Lib.hid (by simp), by simp [dp], z3, rfl⟩
          case round =>
            obtain ⟨n, I, hn, rfl, HI, rfl, z4, rfl⟩ := hrel
            by_cases hlt2 : I ≤ (k : Int) + (U : Int)
            · have hn2 : n < D + U + 1 := by have := HI.out; omega
              have hI1 : -100 ≤ I := by have := HI.out; omega
              have hwI : IntKind.i64.wrap (I + 1) = I + 1 := IntWalk.i64_in _ (by omega)
              cases hd : dp rs ((k : Int) - (D : Int)) p.1 p.2 n
              · have HN := Lib.hid (dp_no hd)
                clear hd
                go_wp2
                ((refine wp_region_kinK (W := (Kin.wd z2)) (by kernel_rfl) (by kernel_rfl) (by repeat (first | with_reducible exact Below.refl _ _ | with_reducible exact Nat.le_refl _ | with_reducible refine Kin.below _ ?_ | with_reducible refine Below.alloc ?_ ?_ _ | with_reducible refine Below.drew ?_ | with_reducible refine Kin.le _ ?_ | with_reducible refine le_alloc ?_ _ | with_reducible refine le_drew ?_ | with_reducible refine Below.setCell ?_ ?_ _ | with_reducible exact Nat.le_refl _ | (simp only [World.size_alloc]; omega) | (simp <;> omega))) ?_); (repeat' (first | go_big_quiet_step (fail) | ((refine wpQuiet_guard rfl rfl rfl rfl (fun hg => ?_) (fun hg => ?_)) <;> (fail_if_success (first | guard_hyp hg : true = true | guard_hyp hg : false = false)) <;> (try simp only [decide_eq_true_eq, decide_eq_false_iff_not] at hg) <;> simp only [Act.put, List.setIfInBounds_toArray, List.set_cons_zero, List.set_cons_succ]))); all_goals ((with_reducible refine wpQuiet_nil ?_); intro zq hz))
                go_wp2
                go_roundw
                case rel => exact ⟨n + 1, I + 1, by omega, rfl, Lib.hid (by have := HI.out; omega), by rw [HN.out], zq, rfl⟩
                case measure => simp [intOf]; omega
              · by_cases h0 : 0 ≤ I
                · by_cases h1 : I < (rs.length : Int)
                  · obtain ⟨m, rfl⟩ : ∃ m : Nat, I = (m : Int) := ⟨I.toNat, by omega⟩
                    have hm : m < rs.length := by omega
                    obtain ⟨r2, hr2⟩ : ∃ el_, rs[m]? = some el_ := ⟨_, List.getElem?_eq_getElem hm⟩
                    obtain ⟨b2, off2, hbe, hb2, hc2⟩ := HLZ.out m _ hr2
                    cases hbe
                    obtain ⟨S2, n2, c2, f0, f1⟩ := hc2 m r2 hr2
                    have F1 := Lib.hid f1
                    have HB2 := Lib.hid (Hbd.out r2 (List.mem_of_getElem? hr2))
                    have HR2 := Lib.hid hr2
                    have HDN := Lib.hid hd
                    clear hd hc2 f1 hr2 h0
                    cases hb3 : (rvalid r2 && memC r2 p.1 p.2)
                    all_goals
                      have HN := Lib.hid (dp_in HDN.out HI.out HR2.out hb3)
                      have HB3 := Lib.hid hb3
                      clear hb3
                      go_wp2
                      ((refine wp_region_kinK (W := (Kin.wd z2)) (by kernel_rfl) (by kernel_rfl) (by repeat (first | with_reducible exact Below.refl _ _ | with_reducible exact Nat.le_refl _ | with_reducible refine Kin.below _ ?_ | with_reducible refine Below.alloc ?_ ?_ _ | with_reducible refine Below.drew ?_ | with_reducible refine Kin.le _ ?_ | with_reducible refine le_alloc ?_ _ | with_reducible refine le_drew ?_ | with_reducible refine Below.setCell ?_ ?_ _ | with_reducible exact Nat.le_refl _ | (simp only [World.size_alloc]; omega) | (simp <;> omega))) ?_); (repeat' (first | go_big_quiet_step ((go_at_call 23; exact Kin.quiet _ (contains18_is _ r2 p.1 p.2 _ (F1.out.below (by repeat (first | with_reducible exact Below.refl _ _ | with_reducible exact Nat.le_refl _ | with_reducible refine Kin.below _ ?_ | with_reducible refine Below.alloc ?_ ?_ _ | with_reducible refine Below.drew ?_ | with_reducible refine Kin.le _ ?_ | with_reducible refine le_alloc ?_ _ | with_reducible refine le_drew ?_ | with_reducible refine Below.setCell ?_ ?_ _ | with_reducible exact Nat.le_refl _ | (simp only [World.size_alloc]; omega) | (simp <;> omega)))) HB2.out HB3.out))) | ((refine wpQuiet_guard rfl rfl rfl rfl (fun hg => ?_) (fun hg => ?_)) <;> (fail_if_success (first | guard_hyp hg : true = true | guard_hyp hg : false = false)) <;> (try simp only [decide_eq_true_eq, decide_eq_false_iff_not] at hg) <;> simp only [Act.put, List.setIfInBounds_toArray, List.set_cons_zero, List.set_cons_succ]))); all_goals ((with_reducible refine wpQuiet_nil ?_); intro zq hz))
                      go_wp2
                      go_roundw
                      case rel => exact ⟨n + 1, (m : Int) + 1, by omega, rfl, Lib.hid (by have := HI.out; omega), by rw [HN.out], zq, rfl⟩
                      case measure => simp [intOf]; omega
                  · have HN := Lib.hid (dp_out (rs := rs) (x := p.1) (y := p.2) HI.out (.inr (by omega)))
                    clear hd
                    have hq1 : decide (I < (rs.length : Int)) = false := decide_eq_false h1
                    have hq2 : (rs.length : Int) ≤ I := by omega
                    clear h1
                    go_wp2
                    ((refine wp_region_kinK (W := (Kin.wd z2)) (by kernel_rfl) (by kernel_rfl) (by repeat (first | with_reducible exact Below.refl _ _ | with_reducible exact Nat.le_refl _ | with_reducible refine Kin.below _ ?_ | with_reducible refine Below.alloc ?_ ?_ _ | with_reducible refine Below.drew ?_ | with_reducible refine Kin.le _ ?_ | with_reducible refine le_alloc ?_ _ | with_reducible refine le_drew ?_ | with_reducible refine Below.setCell ?_ ?_ _ | with_reducible exact Nat.le_refl _ | (simp only [World.size_alloc]; omega) | (simp <;> omega))) ?_); (repeat' (first | go_big_quiet_step (fail) | ((refine wpQuiet_guard rfl rfl rfl rfl (fun hg => ?_) (fun hg => ?_)) <;> (fail_if_success (first | guard_hyp hg : true = true | guard_hyp hg : false = false)) <;> (try simp only [decide_eq_true_eq, decide_eq_false_iff_not] at hg) <;> simp only [Act.put, List.setIfInBounds_toArray, List.set_cons_zero, List.set_cons_succ]))); all_goals ((with_reducible refine wpQuiet_nil ?_); intro zq hz))
                    go_wp2
                    go_roundw
                    case rel => exact ⟨n + 1, I + 1, by omega, rfl, Lib.hid (by have := HI.out; omega), by rw [HN.out], zq, rfl⟩
                    case measure => simp [intOf]; omega
                · have HN := Lib.hid (dp_out (rs := rs) (x := p.1) (y := p.2) HI.out (.inl (by omega)))
                  clear hd
                  have hq1 : decide (0 ≤ I) = false := decide_eq_false h0
                  have hq3 : decide (I ≥ 0) = false := decide_eq_false h0
                  have hq2 : I < 0 := by omega
                  clear h0
                  go_wp2
                  ((refine wp_region_kinK (W := (Kin.wd z2)) (by kernel_rfl) (by kernel_rfl) (by repeat (first | with_reducible exact Below.refl _ _ | with_reducible exact Nat.le_refl _ | with_reducible refine Kin.below _ ?_ | with_reducible refine Below.alloc ?_ ?_ _ | with_reducible refine Below.drew ?_ | with_reducible refine Kin.le _ ?_ | with_reducible refine le_alloc ?_ _ | with_reducible refine le_drew ?_ | with_reducible refine Below.setCell ?_ ?_ _ | with_reducible exact Nat.le_refl _ | (simp only [World.size_alloc]; omega) | (simp <;> omega))) ?_); (repeat' (first | go_big_quiet_step (fail) | ((refine wpQuiet_guard rfl rfl rfl rfl (fun hg => ?_) (fun hg => ?_)) <;> (fail_if_success (first | guard_hyp hg : true = true | guard_hyp hg : false = false)) <;> (try simp only [decide_eq_true_eq, decide_eq_false_iff_not] at hg) <;> simp only [Act.put, List.setIfInBounds_toArray, List.set_cons_zero, List.set_cons_succ]))); all_goals ((with_reducible refine wpQuiet_nil ?_); intro zq hz))
                  go_wp2
                  go_roundw
                  case rel => exact ⟨n + 1, I + 1, by omega, rfl, Lib.hid (by have := HI.out; omega), by rw [HN.out], zq, rfl⟩
                  case measure => simp [intOf]; omega
            · have HE := Lib.hid (show n = D + U + 1 by have := HI.out; omega)
              cases hd : dp rs ((k : Int) - (D : Int)) p.1 p.2 n
              · have hd2 := hd
                rw [HE.out] at hd2
                have hsc := skin_cell Hr.out HPM.out HU.out HD.out hll hd2
                have HS1 := Lib.hid (show (rvalid (skinR rs k t b).1 && memC (skinR rs k t b).1 p.1 p.2) = true from hsc.1)
                have HS2 := Lib.hid hsc.2
                clear hd hd2 hsc
                go_wp2
                ((refine wp_region_kinK (W := (Kin.wd z2)) (by kernel_rfl) (by kernel_rfl) (by repeat (first | with_reducible exact Below.refl _ _ | with_reducible exact Nat.le_refl _ | with_reducible refine Kin.below _ ?_ | with_reducible refine Below.alloc ?_ ?_ _ | with_reducible refine Below.drew ?_ | with_reducible refine Kin.le _ ?_ | with_reducible refine le_alloc ?_ _ | with_reducible refine le_drew ?_ | with_reducible refine Below.setCell ?_ ?_ _ | with_reducible exact Nat.le_refl _ | (simp only [World.size_alloc]; omega) | (simp <;> omega))) ?_); (repeat' (first | go_big_quiet_step (first | (go_at_call 24; exact Kin.quiet _ (containsC_is _ (skinR rs k t b).1 p.1 p.2 _ (HAZ.out.below (by repeat (first | with_reducible exact Below.refl _ _ | with_reducible exact Nat.le_refl _ | with_reducible refine Kin.below _ ?_ | with_reducible refine Below.alloc ?_ ?_ _ | with_reducible refine Below.drew ?_ | with_reducible refine Kin.le _ ?_ | with_reducible refine le_alloc ?_ _ | with_reducible refine le_drew ?_ | with_reducible refine Below.setCell ?_ ?_ _ | with_reducible exact Nat.le_refl _ | (simp only [World.size_alloc]; omega) | (simp <;> omega)))) (rvalid_bd HV.out.1) HS1.out)) | (go_at_call 24; exact Kin.quiet _ (containsC_is _ (skinR rs k t b).2 p.1 p.2 _ (HBZ.out.below (by repeat (first | with_reducible exact Below.refl _ _ | with_reducible exact Nat.le_refl _ | with_reducible refine Kin.below _ ?_ | with_reducible refine Below.alloc ?_ ?_ _ | with_reducible refine Below.drew ?_ | with_reducible refine Kin.le _ ?_ | with_reducible refine le_alloc ?_ _ | with_reducible refine le_drew ?_ | with_reducible refine Below.setCell ?_ ?_ _ | with_reducible exact Nat.le_refl _ | (simp only [World.size_alloc]; omega) | (simp <;> omega)))) (rvalid_bd HV.out.2) HS2.out))) | ((refine wpQuiet_guard rfl rfl rfl rfl (fun hg => ?_) (fun hg => ?_)) <;> (fail_if_success (first | guard_hyp hg : true = true | guard_hyp hg : false = false)) <;> (try simp only [decide_eq_true_eq, decide_eq_false_iff_not] at hg) <;> simp only [Act.put, List.setIfInBounds_toArray, List.set_cons_zero, List.set_cons_succ]))); all_goals ((with_reducible refine wpQuiet_nil ?_); intro zq hz))
                go_wp2
                go_roundw
                case rel => exact ⟨j + 1, by omega, by go_num, zq, rfl⟩
                case measure => simp [intOf]; omega
              · have hd2 := hd
                rw [HE.out] at hd2
                have hsc := skin_cell Hr.out HPM.out HU.out HD.out hll hd2
                have HS1 := Lib.hid (show (rvalid (skinR rs k t b).1 && memC (skinR rs k t b).1 p.1 p.2) = false from hsc.1)
                have HS2 := Lib.hid hsc.2
                clear hd hd2 hsc
                go_wp2
                ((refine wp_region_kinK (W := (Kin.wd z2)) (by kernel_rfl) (by kernel_rfl) (by repeat (first | with_reducible exact Below.refl _ _ | with_reducible exact Nat.le_refl _ | with_reducible refine Kin.below _ ?_ | with_reducible refine Below.alloc ?_ ?_ _ | with_reducible refine Below.drew ?_ | with_reducible refine Kin.le _ ?_ | with_reducible refine le_alloc ?_ _ | with_reducible refine le_drew ?_ | with_reducible refine Below.setCell ?_ ?_ _ | with_reducible exact Nat.le_refl _ | (simp only [World.size_alloc]; omega) | (simp <;> omega))) ?_); (repeat' (first | go_big_quiet_step (first | (go_at_call 24; exact Kin.quiet _ (containsC_is _ (skinR rs k t b).1 p.1 p.2 _ (HAZ.out.below (by repeat (first | with_reducible exact Below.refl _ _ | with_reducible exact Nat.le_refl _ | with_reducible refine Kin.below _ ?_ | with_reducible refine Below.alloc ?_ ?_ _ | with_reducible refine Below.drew ?_ | with_reducible refine Kin.le _ ?_ | with_reducible refine le_alloc ?_ _ | with_reducible refine le_drew ?_ | with_reducible refine Below.setCell ?_ ?_ _ | with_reducible exact Nat.le_refl _ | (simp only [World.size_alloc]; omega) | (simp <;> omega)))) (rvalid_bd HV.out.1) HS1.out)) | (go_at_call 24; exact Kin.quiet _ (containsC_is _ (skinR rs k t b).2 p.1 p.2 _ (HBZ.out.below (by repeat (first | with_reducible exact Below.refl _ _ | with_reducible exact Nat.le_refl _ | with_reducible refine Kin.below _ ?_ | with_reducible refine Below.alloc ?_ ?_ _ | with_reducible refine Below.drew ?_ | with_reducible refine Kin.le _ ?_ | with_reducible refine le_alloc ?_ _ | with_reducible refine le_drew ?_ | with_reducible refine Below.setCell ?_ ?_ _ | with_reducible exact Nat.le_refl _ | (simp only [World.size_alloc]; omega) | (simp <;> omega)))) (rvalid_bd HV.out.2) HS2.out))) | ((refine wpQuiet_guard rfl rfl rfl rfl (fun hg => ?_) (fun hg => ?_)) <;> (fail_if_success (first | guard_hyp hg : true = true | guard_hyp hg : false = false)) <;> (try simp only [decide_eq_true_eq, decide_eq_false_iff_not] at hg) <;> simp only [Act.put, List.setIfInBounds_toArray, List.set_cons_zero, List.set_cons_succ]))); all_goals ((with_reducible refine wpQuiet_nil ?_); intro zq hz))
                go_wp2
                go_roundw
                case rel => exact ⟨j + 1, by omega, by go_num, zq, rfl⟩
                case measure => simp [intOf]; omega
        · obtain ⟨n1, hn1⟩ : ∃ n1, cntR (skinR rs k t b).1 = n1 := ⟨_, rfl⟩
          obtain ⟨n2, hn2⟩ : ∃ n2, cntR (skinR rs k t b).2 = n2 := ⟨_, rfl⟩
          have hs := HC1.out
          rw [hn1, hn2, ← HCL.out] at hs
          have ha1 := cntR_bd (skinR rs k t b).1
          have ha2 := cntR_bd (skinR rs k t b).2
          rw [hn1] at ha1
          rw [hn2] at ha2
          have hwn : IntKind.i64.wrap (n1 + n2) = n1 + n2 := IntWalk.i64_in _ (by omega)
          have hbe : (n1 + n2 == (cl.length : Int)) = true := by simp [hs]
          have HN1 := Lib.hid hn1
          have HN2 := Lib.hid hn2
          clear hs hn1 hn2
          go_wp2
          ((refine wp_region_kinK (W := (Kin.wd z2)) (by kernel_rfl) (by kernel_rfl) (by repeat (first | with_reducible exact Below.refl _ _ | with_reducible exact Nat.le_refl _ | with_reducible refine Kin.below _ ?_ | with_reducible refine Below.alloc ?_ ?_ _ | with_reducible refine Below.drew ?_ | with_reducible refine Kin.le _ ?_ | with_reducible refine le_alloc ?_ _ | with_reducible refine le_drew ?_ | with_reducible refine Below.setCell ?_ ?_ _ | with_reducible exact Nat.le_refl _ | (simp only [World.size_alloc]; omega) | (simp <;> omega))) ?_); (repeat' (first | go_big_quiet_step (first | (go_at_call 20; exact Kin.quiet _ (count_is _ (skinR rs k t b).1 _ (HAZ.out.below (by repeat (first | with_reducible exact Below.refl _ _ | with_reducible exact Nat.le_refl _ | with_reducible refine Kin.below _ ?_ | with_reducible refine Below.alloc ?_ ?_ _ | with_reducible refine Below.drew ?_ | with_reducible refine Kin.le _ ?_ | with_reducible refine le_alloc ?_ _ | with_reducible refine le_drew ?_ | with_reducible refine Below.setCell ?_ ?_ _ | with_reducible exact Nat.le_refl _ | (simp only [World.size_alloc]; omega) | (simp <;> omega)))) (rvalid_bd HV.out.1) HN1.out)) | (go_at_call 20; exact Kin.quiet _ (count_is _ (skinR rs k t b).2 _ (HBZ.out.below (by repeat (first | with_reducible exact Below.refl _ _ | with_reducible exact Nat.le_refl _ | with_reducible refine Kin.below _ ?_ | with_reducible refine Below.alloc ?_ ?_ _ | with_reducible refine Below.drew ?_ | with_reducible refine Kin.le _ ?_ | with_reducible refine le_alloc ?_ _ | with_reducible refine le_drew ?_ | with_reducible refine Below.setCell ?_ ?_ _ | with_reducible exact Nat.le_refl _ | (simp only [World.size_alloc]; omega) | (simp <;> omega)))) (rvalid_bd HV.out.2) HN2.out)) | (go_at_call 15; exact Kin.quiet _ (awake28_any _))) | ((refine wpQuiet_guard rfl rfl rfl rfl (fun hg => ?_) (fun hg => ?_)) <;> (fail_if_success (first | guard_hyp hg : true = true | guard_hyp hg : false = false)) <;> (try simp only [decide_eq_true_eq, decide_eq_false_iff_not] at hg) <;> simp only [Act.put, List.setIfInBounds_toArray, List.set_cons_zero, List.set_cons_succ]))); all_goals ((with_reducible refine wpQuiet_nil ?_); intro zq hz))
          go_wp2
          go_ret
          exact ⟨rfl, (by repeat (first | with_reducible exact Below.refl _ _ | with_reducible exact Nat.le_refl _ | with_reducible refine Kin.below _ ?_ | with_reducible refine Below.alloc ?_ ?_ _ | with_reducible refine Below.drew ?_ | with_reducible refine Kin.le _ ?_ | with_reducible refine le_alloc ?_ _ | with_reducible refine le_drew ?_ | with_reducible refine Below.setCell ?_ ?_ _ | with_reducible exact Nat.le_refl _ | (simp only [World.size_alloc]; omega) | (simp <;> omega)))⟩
    · clear hop
      go_enter Try.func6, Try.ntmps6
      have hi2 : i < 0 ∨ (rs.length : Int) ≤ i := by omega
      rcases hi2 with hi2 | hi2
      all_goals
        go_wp2_with (first
          | (go_at_call 14; (with_reducible refine (Kin.callK (W := W.alloc (.cells #[.slice L rs.length capL, .int .i64 i, .int .i64 t, .int .i64 b] 24)) (by repeat (first | with_reducible exact Below.refl _ _ | with_reducible exact Nat.le_refl _ | with_reducible refine Kin.below _ ?_ | with_reducible refine Below.alloc ?_ ?_ _ | with_reducible refine Below.drew ?_ | with_reducible refine Kin.le _ ?_ | with_reducible refine le_alloc ?_ _ | with_reducible refine le_drew ?_ | with_reducible refine Below.setCell ?_ ?_ _ | with_reducible exact Nat.le_refl _ | (simp only [World.size_alloc]; omega) | (simp <;> omega))) (small28_is _ rs _ (HL.out.below (by repeat (first | with_reducible exact Below.refl _ _ | with_reducible exact Nat.le_refl _ | with_reducible refine Kin.below _ ?_ | with_reducible refine Below.alloc ?_ ?_ _ | with_reducible refine Below.drew ?_ | with_reducible refine Kin.le _ ?_ | with_reducible refine le_alloc ?_ _ | with_reducible refine le_drew ?_ | with_reducible refine Below.setCell ?_ ?_ _ | with_reducible exact Nat.le_refl _ | (simp only [World.size_alloc]; omega) | (simp <;> omega)))) hsm)).mono ?_); rintro e w' ⟨z, rfl, hz, rfl⟩)
          | (go_at_call 15; (with_reducible refine (Kin.callK (W := W) (by repeat (first | with_reducible exact Below.refl _ _ | with_reducible exact Nat.le_refl _ | with_reducible refine Kin.below _ ?_ | with_reducible refine Below.alloc ?_ ?_ _ | with_reducible refine Below.drew ?_ | with_reducible refine Kin.le _ ?_ | with_reducible refine le_alloc ?_ _ | with_reducible refine le_drew ?_ | with_reducible refine Below.setCell ?_ ?_ _ | with_reducible exact Nat.le_refl _ | (simp only [World.size_alloc]; omega) | (simp <;> omega))) (awake28_any _)).mono ?_); rintro e w' ⟨z, rfl, hz, rfl⟩))
        go_ret
        exact ⟨rfl, (by repeat (first | with_reducible exact Below.refl _ _ | with_reducible exact Nat.le_refl _ | with_reducible refine Kin.below _ ?_ | with_reducible refine Below.alloc ?_ ?_ _ | with_reducible refine Below.drew ?_ | with_reducible refine Kin.le _ ?_ | with_reducible refine le_alloc ?_ _ | with_reducible refine le_drew ?_ | with_reducible refine Below.setCell ?_ ?_ _ | with_reducible exact Nat.le_refl _ | (simp only [World.size_alloc]; omega) | (simp <;> omega)))⟩
set_option maxRecDepth 100000 in
theorem skinCovers_lifted (os : Os) (started : os.Started) (H : Type) (enc : TypeId × Value → H) :
    ReturnsInHanded {} Try.checked os 6 .any (Rows.skinCoversSpec.pre6 enc Try.prog Try.f6 Rows.skinCoversRow.domain false) (Rows.skinCoversSpec.post enc Try.prog Try.f6 false true false false) := by
  refine returnsInHanded_of_change (C := Try.checked) own started (by kernel_rfl) Try.func6
    (ChangeSpec.witness6 (enc := enc) (C := Try.checked) false ⟨#[], #[.agg #[.slice none 0 0, .int .i64 0, .int .i64 0, .int .i64 0]], []⟩ 8 (by kernel_rfl) (by kernel_rfl) (by kernel_rfl) (by kernel_rfl)) ?_
  intro W base args ds gs before hval0 hW hcnd _
  have hval : ∀ (j : Nat) t v, Try.f6.params[j]? = some t → args[j]? = some v → Value.okWide Try.prog W .any base t v := hval0
  have hW' := hW
  obtain ⟨p, q, hA0, hV, rfl, hfz, hnd⟩ := hW
  have hA : DataW.TrodAll enc Try.prog W 0 (fun _ => true) true Try.f6.params.toList args.toList ds p := hA0
  rw [Try.params6] at hA hval
  have hAA := hA
  obtain ⟨v0, vs0, d0, ds0, p0, q0, hargs, rfl, rfl, h0, r0⟩ := trodAll_cons hA
  obtain ⟨rfl, rfl, rfl⟩ := trodAll_nil r0
  obtain rfl : args = #[v0] := by cases args; simp_all
  obtain ⟨rfl, rfl⟩ := trodVars_none hV
  have o0 := open_ask (hval 0 24 v0 rfl rfl) h0
  have hlt : ∀ x ∈ p0 ++ [], x.block < W.heap.size := fun x hx => hW'.lt x (by simpa using hx)
  refine (covers_walk W _ o0).mono fun e W' ⟨he, bel⟩ => ?_
  subst he
  exact ⟨_, rfl, _, _, _, [], _, [], hW', trodAll_mk1 (shut_bool Try.underlying4 _), below_trodAll laidOut bel _ _ _ _ (by
    intro t ht
    have hcl : ([24] : List TypeId).all (fun t => Try.prog.readableRec t && decide (t < Try.prog.types.size)) = true := by kernel_rfl
    have := List.all_eq_true.1 hcl t ht
    simpa using this) hlt hAA, rfl, bel.frame _, fun h => by cases h⟩
/-- SkinCovers: for every input the call returns true, and the arguments read behind it as before. No condition. -/
theorem skinCovers_holds : Rows.SkinCoversSaid :=
  OpenClaim.holds_of_wide 6 Try.f6 rfl rfl rfl rfl rfl rfl rfl ⟨rfl, rfl, rfl, rfl, rfl⟩ rfl rfl rfl rfl rfl (by kernel_rfl) Try.func6 (by kernel_rfl)
    (of_decide_eq_true (by kernel_rfl)) (by unfold Func.isWrapper; rw [if_neg (of_decide_eq_false (by kernel_rfl))]; exact ⟨rfl, rfl⟩)
    (fun os started H enc _ => skinCovers_lifted os started H enc)

end Go.Proofs.Ytfoedkdmckhihaa

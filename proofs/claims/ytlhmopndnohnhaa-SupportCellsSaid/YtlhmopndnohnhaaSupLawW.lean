/- Contracts of chapter 31 in the forms that its laws use. -/
import Derived.Test.YtlhmopndnohnhaaSupAwake
namespace Go.Proofs.Ytlhmopndnohnhaa
set_option linter.unusedSimpArgs false
set_option linter.unusedVariables false
open Go.ChangeShapes Go.WideShapes Go.ChangeAt Go.RowKit Go.Joins Runs Reg
attribute [local go_sem] Kin.cell Kin.frozen Kin.lt0 Kin.lt1 Kin.lt2 Kin.lt3 run_mkf
theorem smallR_bd {r : List Reg.Row} (h : smallR r = true) : RBd r := by
  simp only [smallR, Bool.and_eq_true, decide_eq_true_eq, List.all_eq_true] at h
  exact ⟨by omega, fun w hw => Nat.le_trans (h.1.2 w hw) (by decide)⟩
theorem small18_is {b : Bool} (v : Value) (rows : List Reg.Row) (w : World) (h : RdReg w v rows) (hb : smallR rows = b) :
    Calls Try.prog 9 #[v] w fun e w' => e = .returned (.bool b) ∧ Below w.heap.size w w' := by subst hb; exact small18_any v rows w h
theorem small28_is {b : Bool} (v : Value) (rs : List (List Reg.Row)) (w : World) (h : RdRegs w v rs) (hb : smallL rs = b) :
    Calls Try.prog 14 #[v] w fun e w' => e = .returned (.bool b) ∧ Below w.heap.size w w' := by subst hb; exact small28_any v rs w h
set_option maxRecDepth 100000 in
set_option maxHeartbeats 8000000 in
theorem same31_t (v u : Value) (rs : List (List Reg.Row)) (w : World) (ha : RdRegs w v rs) (hb : RdRegs w u rs) (hbd : ∀ r ∈ rs, RBd r) (hlen : rs.length ≤ 256) :
    Calls Try.prog 17 #[v, u] w fun e w' => e = .returned (.bool true) ∧ Below w.heap.size w w' := by
  obtain ⟨A, capA, rfl, hcapA, hopA⟩ := regs_open ha
  obtain ⟨B, capB, rfl, hcapB, hopB⟩ := regs_open hb
  have HA := Lib.hid hopA
  have HB := Lib.hid hopB
  have Hbd := Lib.hid hbd
  have hne : ((rs.length : Int) == (rs.length : Int)) = true := beq_self_eq_true _
  clear ha hb hopA hopB hbd
  go_enter Try.func17, Try.ntmps17
  go_wp2
  go_loopw [5] (fun i wr => ∃ k : Nat, k ≤ rs.length ∧ i = .int .i64 k ∧ ∃ z : Kin w, z.1 = wr) (fun i _ => rs.length - (intOf i).toNat)
  case atStart => exact ⟨0, Nat.zero_le _, rfl, ⟨_, Below.refl _ _⟩, rfl⟩
  case round =>
    obtain ⟨k, hk, rfl, z, rfl⟩ := hrel
    by_cases hlt : k < rs.length
    · obtain ⟨r, hr⟩ : ∃ el_, rs[k]? = some el_ := ⟨_, List.getElem?_eq_getElem hlt⟩
      obtain ⟨bA, offA, rfl, hbA, hcA⟩ := HA.out k _ hr
      obtain ⟨SA, nA, cA, e0, f0⟩ := hcA k r hr
      obtain ⟨bB, offB, rfl, hbB, hcB⟩ := HB.out k _ hr
      obtain ⟨SB, nB, cB, e1, f1⟩ := hcB k r hr
      have F0 := Lib.hid f0
      have F1 := Lib.hid f1
      have HBD := Lib.hid (Hbd.out r (List.mem_of_getElem? hr))
      clear hr hcA hcB f0 f1
      go_wp2
      ((refine wp_region_kinK (W := w) (by kernel_rfl) (by kernel_rfl) (by repeat (first | with_reducible exact Below.refl _ _ | with_reducible exact Nat.le_refl _ | with_reducible refine Kin.below _ ?_ | with_reducible refine Below.alloc ?_ ?_ _ | with_reducible refine Below.drew ?_ | with_reducible refine Kin.le _ ?_ | with_reducible refine le_alloc ?_ _ | with_reducible refine le_drew ?_ | with_reducible refine Below.setCell ?_ ?_ _ | with_reducible exact Nat.le_refl _ | (simp only [World.size_alloc]; omega) | (simp <;> omega))) ?_); (repeat' (first | go_big_quiet_step ((go_at_call 13; exact Kin.quiet _ (same18_t (a := r) (b := r) _ _ _ (F0.out.below (by repeat (first | with_reducible exact Below.refl _ _ | with_reducible exact Nat.le_refl _ | with_reducible refine Kin.below _ ?_ | with_reducible refine Below.alloc ?_ ?_ _ | with_reducible refine Below.drew ?_ | with_reducible refine Kin.le _ ?_ | with_reducible refine le_alloc ?_ _ | with_reducible refine le_drew ?_ | with_reducible refine Below.setCell ?_ ?_ _ | with_reducible exact Nat.le_refl _ | (simp only [World.size_alloc]; omega) | (simp <;> omega)))) (F1.out.below (by repeat (first | with_reducible exact Below.refl _ _ | with_reducible exact Nat.le_refl _ | with_reducible refine Kin.below _ ?_ | with_reducible refine Below.alloc ?_ ?_ _ | with_reducible refine Below.drew ?_ | with_reducible refine Kin.le _ ?_ | with_reducible refine le_alloc ?_ _ | with_reducible refine le_drew ?_ | with_reducible refine Below.setCell ?_ ?_ _ | with_reducible exact Nat.le_refl _ | (simp only [World.size_alloc]; omega) | (simp <;> omega)))) HBD.out HBD.out rfl))) | ((refine wpQuiet_guard rfl rfl rfl rfl (fun hg => ?_) (fun hg => ?_)) <;> (fail_if_success (first | guard_hyp hg : true = true | guard_hyp hg : false = false)) <;> (try simp only [decide_eq_true_eq, decide_eq_false_iff_not] at hg) <;> simp only [Act.put, List.setIfInBounds_toArray, List.set_cons_zero, List.set_cons_succ]))); all_goals ((with_reducible refine wpQuiet_nil ?_); intro zq hz))
      go_wp2
      go_roundw
      case rel => exact ⟨k + 1, by omega, by go_num, zq, rfl⟩
      case measure => simp [intOf]; omega
    · go_wp2
      go_ret
      exact ⟨rfl, (by repeat (first | with_reducible exact Below.refl _ _ | with_reducible exact Nat.le_refl _ | with_reducible refine Kin.below _ ?_ | with_reducible refine Below.alloc ?_ ?_ _ | with_reducible refine Below.drew ?_ | with_reducible refine Kin.le _ ?_ | with_reducible refine le_alloc ?_ _ | with_reducible refine le_drew ?_ | with_reducible refine Below.setCell ?_ ?_ _ | with_reducible exact Nat.le_refl _ | (simp only [World.size_alloc]; omega) | (simp <;> omega)))⟩
theorem supR_bd (rs : List (List Reg.Row)) (R G : Int) : ∀ r ∈ supR rs R G, RBd r := by
  intro r hr
  unfold supR at hr
  split at hr
  · unfold supL at hr
    obtain ⟨j, _, rfl⟩ := List.mem_map.1 hr
    split
    · exact rvalid_bd (supS_valid _ _ _ _)
    · exact rvalid_bd rvalid_nil
  · simp at hr
theorem supR_len (rs : List (List Reg.Row)) (R G : Int) (h : rs.length ≤ 256) : (supR rs R G).length ≤ 256 := by
  unfold supR
  split
  · rw [supL_len]; exact h
  · exact Nat.zero_le _
theorem sup_is {E : Int} (v : Value) (rs : List (List Reg.Row)) (R G : Int) (w : World) (h : RdRegs w v rs) (hbd : ∀ r ∈ rs, RBd r) (hlen : rs.length ≤ 256) (hE : supE rs R G = E) :
    Calls Try.prog 15 #[v, .int .i64 R, .int .i64 G] w fun e w' => (∃ A n c, e = .returned (.tuple #[.slice A n c, .int .i64 E]) ∧ n = (supR rs R G).length ∧ RdRegs w' (.slice A n c) (supR rs R G)) ∧ Below w.heap.size w w' := by
  subst hE
  refine (sup_any v rs R G w h hbd hlen).mono fun e w' ⟨⟨A, n, c, he, hr⟩, hb⟩ => ⟨⟨A, n, c, he, ?_, hr⟩, hb⟩
  obtain ⟨A', cap, e1, _⟩ := regs_open hr
  injection e1
theorem rsup_is {E : Int} (v : Value) (rs : List (List Reg.Row)) (R G : Int) (w : World) (h : RdRegs w v rs) (hbd : ∀ r ∈ rs, RBd r) (hlen : rs.length ≤ 256) (hE : supE rs R G = E) :
    Calls Try.prog 16 #[v, .int .i64 R, .int .i64 G] w fun e w' => (∃ A n c, e = .returned (.tuple #[.slice A n c, .int .i64 E]) ∧ n = (supR rs R G).length ∧ RdRegs w' (.slice A n c) (supR rs R G)) ∧ Below w.heap.size w w' := by
  subst hE
  refine (rsup_any v rs R G w h hbd hlen).mono fun e w' ⟨⟨A, n, c, he, hr⟩, hb⟩ => ⟨⟨A, n, c, he, ?_, hr⟩, hb⟩
  obtain ⟨A', cap, e1, _⟩ := regs_open hr
  injection e1
end Go.Proofs.Ytlhmopndnohnhaa

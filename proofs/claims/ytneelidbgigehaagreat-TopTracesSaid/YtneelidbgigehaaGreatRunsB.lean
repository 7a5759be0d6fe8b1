/- What Contains, Length, Shift, Grow and Shrink return. (joined: RunsFns RunsRef2) -/
import Derived.Test.YtneelidbgigehaaGreatRunsA
/- What Contains, Length, Shift, Grow and Shrink return. -/
namespace Go.Proofs.YtneelidbgigehaaGreat
set_option linter.unusedSimpArgs false
set_option linter.unusedVariables false
open Go.RowKit Runs
attribute [local go_sem] Kin.cell Kin.frozen Kin.lt0 Kin.lt1 Kin.lt2 Kin.lt3 run_mkf
/-- the index of the first run with x, or -1 -/
def ixOf (l : List Run) (x : Int) : Int := match l.findIdx? (inR · x) with | some k => k | none => -1
def sumL (l : List Run) : Int := (l.map fun r => r.2 - r.1).sum
def lenL (l : List Run) : Int := if valid l then sumL l else 0
theorem sumL_succ {l : List Run} {k : Nat} {r : Run} (h : l[k]? = some r) : sumL (l.take (k + 1)) = sumL (l.take k) + (r.2 - r.1) := by
  unfold sumL; rw [List.take_add_one, h]; simp [List.sum_append]
theorem valid_fits {l : List Run} (hv : valid l = true) {k : Nat} {r : Run} (h : l[k]? = some r) : -1048576 ≤ r.1 ∧ r.1 ≤ 1048576 ∧ -1048576 ≤ r.2 ∧ r.2 ≤ 1048576 ∧ r.1 < r.2 := by
  have h1 := (valid_iff.1 hv).2 r (List.mem_of_getElem? h)
  have h2 := (valid_iff.1 hv).1.1 r (List.mem_of_getElem? h)
  simp [fits] at h1
  omega
theorem sumL_bd {l : List Run} (hv : valid l = true) (k : Nat) (hk : k ≤ l.length) : 0 ≤ sumL (l.take k) ∧ sumL (l.take k) ≤ 2097152 * k := by
  induction k with
  | zero => simp [sumL]
  | succ k ih =>
    have hl : l[k]? = some l[k] := List.getElem?_eq_getElem (by omega)
    rw [sumL_succ hl]
    have := valid_fits hv hl
    have := ih (by omega)
    omega
set_option maxHeartbeats 4000000 in
theorem length_any (v : Value) (l : List Run) (w : World) (h : Rd 2 encRun w v l) (hlen : l.length ≤ 1099511627776) :
    Calls Tryz.prog 42 #[v] w fun e w' => e = .returned (.int .i64 (lenL l)) ∧ Below w.heap.size w w' := by
  obtain ⟨A, capA, rfl, hcapA, hopA⟩ := h.open_
  have HA := Lib.hid hopA
  have HLA := Lib.hid h
  clear hopA h
  cases hv : valid l
  · go_enter Tryz.func42, Tryz.ntmps42
    go_wp2_with (go_at_call 53; first | ((with_reducible refine (Kin.call _ (valid_any _ l _ (HLA.out.below (by repeat (first | with_reducible (first | exact blA | exact blB | refine blC _ ?_ | refine blD ?_ ?_ _ | refine blE ?_ | refine blF _ ?_ | refine blG ?_ _ | refine blH ?_ | refine blI ?_ ?_ _) | (simp only [World.size_alloc]; omega) | (simp <;> omega)))) (by omega))).mono ?_); rintro e w' ⟨z, rfl, rfl⟩) | ((with_reducible refine (Kin.call0 (valid_any _ l _ (HLA.out.below (by repeat (first | with_reducible (first | exact blA | exact blB | refine blC _ ?_ | refine blD ?_ ?_ _ | refine blE ?_ | refine blF _ ?_ | refine blG ?_ _ | refine blH ?_ | refine blI ?_ ?_ _) | (simp only [World.size_alloc]; omega) | (simp <;> omega)))) (by omega))).mono ?_); rintro e w' ⟨z, rfl, rfl⟩))
    go_ret
    exact ⟨ret_int (by simp [lenL, hv]), (by repeat (first | with_reducible (first | exact blA | exact blB | refine blC _ ?_ | refine blD ?_ ?_ _ | refine blE ?_ | refine blF _ ?_ | refine blG ?_ _ | refine blH ?_ | refine blI ?_ ?_ _) | (simp only [World.size_alloc]; omega) | (simp <;> omega)))⟩
  · go_enter Tryz.func42, Tryz.ntmps42
    go_wp2_with (go_at_call 53; first | ((with_reducible refine (Kin.call _ (valid_any _ l _ (HLA.out.below (by repeat (first | with_reducible (first | exact blA | exact blB | refine blC _ ?_ | refine blD ?_ ?_ _ | refine blE ?_ | refine blF _ ?_ | refine blG ?_ _ | refine blH ?_ | refine blI ?_ ?_ _) | (simp only [World.size_alloc]; omega) | (simp <;> omega)))) (by omega))).mono ?_); rintro e w' ⟨z, rfl, rfl⟩) | ((with_reducible refine (Kin.call0 (valid_any _ l _ (HLA.out.below (by repeat (first | with_reducible (first | exact blA | exact blB | refine blC _ ?_ | refine blD ?_ ?_ _ | refine blE ?_ | refine blF _ ?_ | refine blG ?_ _ | refine blH ?_ | refine blI ?_ ?_ _) | (simp only [World.size_alloc]; omega) | (simp <;> omega)))) (by omega))).mono ?_); rintro e w' ⟨z, rfl, rfl⟩))
    go_loopw [3, 11] (fun n i wr => ∃ k : Nat, k ≤ l.length ∧ i = .int .i64 k ∧ n = .int .i64 (sumL (l.take k)) ∧ ∃ z : Kin w, z.1 = wr) (fun _ i _ => l.length - (intOf i).toNat)
    case atStart => exact ⟨0, Nat.zero_le _, rfl, rfl, _, rfl⟩
    case round =>
      obtain ⟨k, hk, rfl, rfl, z, rfl⟩ := hrel
      have hbd := sumL_bd hv k hk
      by_cases hlt : k < l.length
      · obtain ⟨r, hr⟩ : ∃ el_, (l)[k]? = some el_ := ⟨_, List.getElem?_eq_getElem (by first | exact hlt | omega)⟩
        obtain ⟨bA, offA, rfl, hbA, hcA⟩ := HA.out (k) _ hr
        have r_0 : w.cell? ⟨bA, offA + k * 2, none⟩ = some (.int .i64 r.1) := by exact hcA (k) _ hr 0 _ rfl
        have r_1 : w.cell? ⟨bA, offA + k * 2 + 1, none⟩ = some (.int .i64 r.2) := by exact hcA (k) _ hr 1 _ rfl
        have hbA2 : bA < w.heap.size + 1 := by omega
        have HAc := Lib.hid hcA
        have Hr := Lib.hid hr
        clear hr hcA
        have hf := valid_fits hv Hr.out
        go_wp2
        go_roundw
        case rel => exact ⟨k + 1, by omega, by go_num, by rw [sumL_succ Hr.out], ⟨World.alloc _ _, (by repeat (first | with_reducible (first | exact blA | exact blB | refine blC _ ?_ | refine blD ?_ ?_ _ | refine blE ?_ | refine blF _ ?_ | refine blG ?_ _ | refine blH ?_ | refine blI ?_ ?_ _) | (simp only [World.size_alloc]; omega) | (simp <;> omega)))⟩, rfl⟩
        case measure => simp [intOf]; omega
      · go_wp2
        go_ret
        have : k = l.length := by omega
        exact ⟨ret_int (by simp [lenL, hv, this]), (by repeat (first | with_reducible (first | exact blA | exact blB | refine blC _ ?_ | refine blD ?_ ?_ _ | refine blE ?_ | refine blF _ ?_ | refine blG ?_ _ | refine blH ?_ | refine blI ?_ ?_ _) | (simp only [World.size_alloc]; omega) | (simp <;> omega)))⟩
end Go.Proofs.YtneelidbgigehaaGreat
/- What the chapter's definitions on runs return: Valid, Normal, Norm, Length, Contains, Same; and the first runs of a list. -/
namespace Go.Proofs.YtneelidbgigehaaGreat
set_option linter.unusedSimpArgs false
set_option linter.unusedVariables false
open Go.RowKit Runs
attribute [local go_sem] Kin.cell Kin.frozen Kin.lt0 Kin.lt1 Kin.lt2 Kin.lt3 run_mkf
def okI (x : Int) : Bool := decide (-1048576 ≤ x ∧ x ≤ 1048576)
theorem fits_okI (r : Run) : fits r = (okI r.1 && okI r.2) := by
  rw [Bool.eq_iff_iff]; simp [fits, okI]; omega
theorem vstep_f4 {l : List Run} {k : Nat} {r : Run} (hr : l[k]? = some r) (h : (!okI r.1) = true) : vstep l k = false := vstep_f2 hr (by rw [fits_okI]; simp at h; simp [h])
theorem vstep_f5 {l : List Run} {k : Nat} {r : Run} (hr : l[k]? = some r) (h : (!okI r.2) = true) : vstep l k = false := vstep_f2 hr (by rw [fits_okI]; simp at h; simp [h])
theorem vstep_t2 {l : List Run} {k : Nat} {r q : Run} (hr : l[k]? = some r) (hq : ∀ x, l[k - 1]? = some x → x = q) (h1 : r.1 < r.2) (h2 : (!okI r.1) = false) (h2' : (!okI r.2) = false) (h3 : 0 < k → ¬ r.1 ≤ q.2) : vstep l k = true :=
  vstep_t hr hq (by omega) (by rw [fits_okI]; simp at h2 h2'; simp [h2, h2']) h3
theorem run_neqRun (p q : Run) (w : World) : (binOp .neq 69 (.agg #[.int .i64 p.1, .int .i64 p.2]) (.agg #[.int .i64 q.1, .int .i64 q.2])).run Tryz.prog w = .ok (.bool (!eqp p q)) w := by
  by_cases h1 : p.1 = q.1 <;> by_cases h2 : p.2 = q.2 <;> simp [go_sem, eqp, h1, h2]
end Go.Proofs.YtneelidbgigehaaGreat

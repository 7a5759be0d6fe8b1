/- What Contains, Length, Shift, Grow and Shrink return. (joined: RunsFns RunsRef2) -/
import Derived.Test.YtbdmibbpojmkiaaRunsA
/- What Contains, Length, Shift, Grow and Shrink return. -/
namespace Go.Proofs.Ytbdmibbpojmkiaa
set_option linter.unusedSimpArgs false
set_option linter.unusedVariables false
open Go.RowKit Runs
attribute [local go_sem] Kin.cell Kin.frozen Kin.lt0 Kin.lt1 Kin.lt2 Kin.lt3 run_mkf
set_option maxHeartbeats 4000000 in
theorem containsf_any (r : Run) (x : Int) (p : Nat) (w : World) (hc : w.cell? ⟨p, 0, none⟩ = some (.int .i64 x)) (hp : p < w.heap.size) :
    Calls Try.prog 58 #[rv r, .pointer (some ⟨p, 0, none⟩)] w fun e w' => e = .returned (.bool (inR r x)) ∧ Below w.heap.size w w' := by
  go_enter Try.func58, Try.ntmps58
  go_wp2
  all_goals
    go_ret
    exact ⟨ret_bool (by simp [inR, *] <;> omega), (by repeat (first | with_reducible (first | exact blA | exact blB | refine blC _ ?_ | refine blD ?_ ?_ _ | refine blE ?_ | refine blF _ ?_ | refine blG ?_ _ | refine blH ?_ | refine blI ?_ ?_ _) | (simp only [World.size_alloc]; omega) | (simp <;> omega)))⟩
/-- the index of the first run with x, or -1 -/
def ixOf (l : List Run) (x : Int) : Int := match l.findIdx? (inR · x) with | some k => k | none => -1
set_option maxHeartbeats 4000000 in
theorem index_any (v : Value) (l : List Run) (x : Int) (p : Nat) (w : World) (hc : w.cell? ⟨p, 0, none⟩ = some (.int .i64 x)) (hp : p < w.heap.size) (h : Rd 2 encRun w v l) (hlen : l.length ≤ 1099511627776) :
    Calls Try.prog 72 #[v, .func (.func 58) #[] #[.pointer (some ⟨p, 0, none⟩)]] w fun e w' => (∃ n : Int, e = .returned (.int .i64 n) ∧ decide (0 ≤ n) = mem l x) ∧ Below w.heap.size w w' := by
  obtain ⟨A, capA, rfl, hcapA, hopA⟩ := h.open_
  have HA := Lib.hid hopA
  have HLA := Lib.hid h
  clear hopA h
  go_enter Try.func72, Try.ntmps72
  go_wp2
  go_loopw [8] (fun i wr => ∃ k : Nat, k ≤ l.length ∧ i = .int .i64 k ∧ Hid (mem (l.take k) x = false) ∧ ∃ z : Kin w, z.1 = wr) (fun i _ => l.length - (intOf i).toNat)
  case atStart => exact ⟨0, Nat.zero_le _, rfl, rfl, ⟨w, Below.refl _ _⟩, rfl⟩
  case round =>
    obtain ⟨k, hk, rfl, hm, z, rfl⟩ := hrel
    by_cases hlt : k < l.length
    · obtain ⟨r, hr⟩ : ∃ el_, (l)[k]? = some el_ := ⟨_, List.getElem?_eq_getElem (by first | exact hlt | omega)⟩
      obtain ⟨bA, offA, rfl, hbA, hcA⟩ := HA.out (k) _ hr
      have r_0 : w.cell? ⟨bA, offA + k * 2, none⟩ = some (.int .i64 r.1) := by exact hcA (k) _ hr 0 _ rfl
      have r_1 : w.cell? ⟨bA, offA + k * 2 + 1, none⟩ = some (.int .i64 r.2) := by exact hcA (k) _ hr 1 _ rfl
      have hbA2 : bA < w.heap.size + 1 := by omega
      have HAc := Lib.hid hcA
      have Hr := Lib.hid hr
      clear hr hcA
      have hc' : z.1.cell? ⟨p, 0, none⟩ = some (.int .i64 x) := by rw [z.cell hp]; exact hc
      cases hx : inR r x
      all_goals go_wp2_with (go_at_call 58; first | ((with_reducible refine (Kin.call _ (containsf_any r x p _ hc' (z.lt0 hp))).mono ?_); rintro e w' ⟨z, rfl, rfl⟩) | ((with_reducible refine (Kin.call0 (containsf_any r x p _ hc' (z.lt0 hp))).mono ?_); rintro e w' ⟨z, rfl, rfl⟩))
      · go_roundw
        case rel => exact ⟨k + 1, by omega, by go_num, mem_take_no Hr.out hm.out (by simp [inR] at hx; omega), _, rfl⟩
        case measure => simp [intOf]; omega
      · go_ret
        refine ⟨⟨k, rfl, ?_⟩, (by repeat (first | with_reducible (first | exact blA | exact blB | refine blC _ ?_ | refine blD ?_ ?_ _ | refine blE ?_ | refine blF _ ?_ | refine blG ?_ _ | refine blH ?_ | refine blI ?_ ?_ _) | (simp only [World.size_alloc]; omega) | (simp <;> omega)))⟩
        simp [inR] at hx
        rw [mem_hit Hr.out hx.1 hx.2]; simp
    · go_wp2
      go_ret
      have : k = l.length := by omega
      refine ⟨⟨-1, rfl, ?_⟩, (by repeat (first | with_reducible (first | exact blA | exact blB | refine blC _ ?_ | refine blD ?_ ?_ _ | refine blE ?_ | refine blF _ ?_ | refine blG ?_ _ | refine blH ?_ | refine blI ?_ ?_ _) | (simp only [World.size_alloc]; omega) | (simp <;> omega)))⟩
      have hm2 := hm.out
      rw [this, List.take_length] at hm2
      rw [hm2]; rfl
set_option maxHeartbeats 4000000 in
theorem containsF_any (v : Value) (l : List Run) (x : Int) (p : Nat) (w : World) (hc : w.cell? ⟨p, 0, none⟩ = some (.int .i64 x)) (hp : p < w.heap.size) (h : Rd 2 encRun w v l) (hlen : l.length ≤ 1099511627776) :
    Calls Try.prog 57 #[v, .func (.func 58) #[] #[.pointer (some ⟨p, 0, none⟩)]] w fun e w' => e = .returned (.bool (mem l x)) ∧ Below w.heap.size w w' := by
  go_enter Try.func57, Try.ntmps57
  go_wp2_with (go_at_call 72; first | ((with_reducible refine (Kin.call _ (index_any _ l x p _ hc hp h hlen)).mono ?_); rintro e w' ⟨z, ⟨n, rfl, hn⟩, rfl⟩; (have HN := Lib.hid hn; clear hn)) | ((with_reducible refine (Kin.call0 (index_any _ l x p _ hc hp h hlen)).mono ?_); rintro e w' ⟨z, ⟨n, rfl, hn⟩, rfl⟩; (have HN := Lib.hid hn; clear hn)))
  go_ret
  exact ⟨ret_bool HN.out, (by repeat (first | with_reducible (first | exact blA | exact blB | refine blC _ ?_ | refine blD ?_ ?_ _ | refine blE ?_ | refine blF _ ?_ | refine blG ?_ _ | refine blH ?_ | refine blI ?_ ?_ _) | (simp only [World.size_alloc]; omega) | (simp <;> omega)))⟩
set_option maxHeartbeats 4000000 in
theorem contains_any (v : Value) (l : List Run) (x : Int) (w : World) (h : Rd 2 encRun w v l) (hlen : l.length ≤ 1099511627776) :
    Calls Try.prog 40 #[v, .int .i64 x] w fun e w' => e = .returned (.bool (valid l && mem l x)) ∧ Below w.heap.size w w' := by
  obtain ⟨A, capA, rfl, hcapA, hopA⟩ := h.open_
  have HA := Lib.hid hopA
  have HLA := Lib.hid h
  clear hopA h
  cases hv : valid l
  all_goals
    go_enter Try.func40, Try.ntmps40
    go_wp2_with (first | (go_at_call 39; first | ((with_reducible refine (Kin.call _ (valid_any _ l _ (HLA.out.below (by repeat (first | with_reducible (first | exact blA | exact blB | refine blC _ ?_ | refine blD ?_ ?_ _ | refine blE ?_ | refine blF _ ?_ | refine blG ?_ _ | refine blH ?_ | refine blI ?_ ?_ _) | (simp only [World.size_alloc]; omega) | (simp <;> omega)))) (by omega))).mono ?_); rintro e w' ⟨z, rfl, rfl⟩) | ((with_reducible refine (Kin.call0 (valid_any _ l _ (HLA.out.below (by repeat (first | with_reducible (first | exact blA | exact blB | refine blC _ ?_ | refine blD ?_ ?_ _ | refine blE ?_ | refine blF _ ?_ | refine blG ?_ _ | refine blH ?_ | refine blI ?_ ?_ _) | (simp only [World.size_alloc]; omega) | (simp <;> omega)))) (by omega))).mono ?_); rintro e w' ⟨z, rfl, rfl⟩)) | (go_at_call 57; first | ((with_reducible refine (Kin.call _ (containsF_any _ l x w.heap.size _ (by first | exact (z.cell (by simp)).trans (by simp) | (rw [z.cell (by simp)]; go_simp)) (z.lt0 (by simp)) (HLA.out.below (by repeat (first | with_reducible (first | exact blA | exact blB | refine blC _ ?_ | refine blD ?_ ?_ _ | refine blE ?_ | refine blF _ ?_ | refine blG ?_ _ | refine blH ?_ | refine blI ?_ ?_ _) | (simp only [World.size_alloc]; omega) | (simp <;> omega)))) (by omega))).mono ?_); rintro e w' ⟨z, rfl, rfl⟩) | ((with_reducible refine (Kin.call0 (containsF_any _ l x w.heap.size _ (by first | exact (z.cell (by simp)).trans (by simp) | (rw [z.cell (by simp)]; go_simp)) (z.lt0 (by simp)) (HLA.out.below (by repeat (first | with_reducible (first | exact blA | exact blB | refine blC _ ?_ | refine blD ?_ ?_ _ | refine blE ?_ | refine blF _ ?_ | refine blG ?_ _ | refine blH ?_ | refine blI ?_ ?_ _) | (simp only [World.size_alloc]; omega) | (simp <;> omega)))) (by omega))).mono ?_); rintro e w' ⟨z, rfl, rfl⟩)))
    go_ret
    exact ⟨rfl, (by repeat (first | with_reducible (first | exact blA | exact blB | refine blC _ ?_ | refine blD ?_ ?_ _ | refine blE ?_ | refine blF _ ?_ | refine blG ?_ _ | refine blH ?_ | refine blI ?_ ?_ _) | (simp only [World.size_alloc]; omega) | (simp <;> omega)))⟩
def sumL (l : List Run) : Int := (l.map fun r => r.2 - r.1).sum
def lenL (l : List Run) : Int := if valid l then sumL l else 0
theorem sumL_succ {l : List Run} {k : Nat} {r : Run} (h : l[k]? = some r) : sumL (l.take (k + 1)) = sumL (l.take k) + (r.2 - r.1) := by
  unfold sumL; rw [List.take_add_one, h]; simp [List.sum_append]
theorem valid_fits {l : List Run} (hv : valid l = true) {k : Nat} {r : Run} (h : l[k]? = some r) : -1048576 ≤ r.1 ∧ r.1 ≤ 1048576 ∧ -1048576 ≤ r.2 ∧ r.2 ≤ 1048576 ∧ r.1 < r.2 := by
  have h1 := (valid_iff.1 hv).2 r (List.mem_of_getElem? h)
  have h2 := (valid_iff.1 hv).1.1 r (List.mem_of_getElem? h)
  simp [fits] at h1
  omega
theorem sumL_bd {l : List Run} (hv : valid l = true) (k : Nat) (hk : k ≤ l.length) : 0 ≤ sumL (l.take k) ∧ sumL (l.take k) ≤ 2097152 * k := by
  induction k with
  | zero => simp [sumL]
  | succ k ih =>
    have hl : l[k]? = some l[k] := List.getElem?_eq_getElem (by omega)
    rw [sumL_succ hl]
    have := valid_fits hv hl
    have := ih (by omega)
    omega
end Go.Proofs.Ytbdmibbpojmkiaa
/- What the chapter's definitions on runs return: Valid, Normal, Norm, Length, Contains, Same; and the first runs of a list. -/
namespace Go.Proofs.Ytbdmibbpojmkiaa
set_option linter.unusedSimpArgs false
set_option linter.unusedVariables false
open Go.RowKit Runs
attribute [local go_sem] Kin.cell Kin.frozen Kin.lt0 Kin.lt1 Kin.lt2 Kin.lt3 run_mkf
def okI (x : Int) : Bool := decide (-1048576 ≤ x ∧ x ≤ 1048576)
theorem fits_okI (r : Run) : fits r = (okI r.1 && okI r.2) := by
  rw [Bool.eq_iff_iff]; simp [fits, okI]; omega
theorem vstep_f4 {l : List Run} {k : Nat} {r : Run} (hr : l[k]? = some r) (h : (!okI r.1) = true) : vstep l k = false := vstep_f2 hr (by rw [fits_okI]; simp at h; simp [h])
theorem vstep_f5 {l : List Run} {k : Nat} {r : Run} (hr : l[k]? = some r) (h : (!okI r.2) = true) : vstep l k = false := vstep_f2 hr (by rw [fits_okI]; simp at h; simp [h])
theorem vstep_t2 {l : List Run} {k : Nat} {r q : Run} (hr : l[k]? = some r) (hq : ∀ x, l[k - 1]? = some x → x = q) (h1 : r.1 < r.2) (h2 : (!okI r.1) = false) (h2' : (!okI r.2) = false) (h3 : 0 < k → ¬ r.1 ≤ q.2) : vstep l k = true :=
  vstep_t hr hq (by omega) (by rw [fits_okI]; simp at h2 h2'; simp [h2, h2']) h3
theorem run_neqRun (p q : Run) (w : World) : (binOp .neq 46 (.agg #[.int .i64 p.1, .int .i64 p.2]) (.agg #[.int .i64 q.1, .int .i64 q.2])).run Try.prog w = .ok (.bool (!eqp p q)) w := by
  by_cases h1 : p.1 = q.1 <;> by_cases h2 : p.2 = q.2 <;> simp [go_sem, eqp, h1, h2]
set_option maxHeartbeats 4000000 in
theorem same_any (v u : Value) (a b : List Run) (w : World) (ha : Rd 2 encRun w v a) (hb : Rd 2 encRun w u b) (hlen : a.length ≤ 1099511627776) (hlen2 : b.length ≤ 1099511627776) :
    Calls Try.prog 16 #[v, u] w fun e w' => e = .returned (.bool (decide (a = b))) ∧ Below w.heap.size w w' := by
  obtain ⟨A, capA, rfl, hcapA, hopA⟩ := ha.open_
  have HA := Lib.hid hopA
  have HLA := Lib.hid ha
  clear hopA ha
  obtain ⟨B, capB, rfl, hcapB, hopB⟩ := hb.open_
  have HB := Lib.hid hopB
  have HLB := Lib.hid hb
  clear hopB hb
  have heq := run_neqRun
  by_cases hl : a.length = b.length
  · rw [hl]
    have Hl := Lib.hid hl
    have hl2 : a.length ≤ b.length ∧ b.length ≤ a.length := by omega
    clear hl
    go_enter Try.func16, Try.ntmps16
    go_wp2
    go_loopw [5] (fun i wr => ∃ k : Nat, k ≤ b.length ∧ i = .int .i64 k ∧ Hid (a.take k = b.take k) ∧ ∃ z : Kin w, z.1 = wr) (fun i _ => b.length - (intOf i).toNat)
    case atStart => exact ⟨0, Nat.zero_le _, rfl, rfl, ⟨w, Below.refl _ _⟩, rfl⟩
    case round =>
      obtain ⟨k, hk, rfl, hm, z, rfl⟩ := hrel
      by_cases hlt : k < b.length
      · obtain ⟨r, hr⟩ : ∃ el_, (a)[k]? = some el_ := ⟨_, List.getElem?_eq_getElem (by first | exact hlt | omega)⟩
        obtain ⟨bA, offA, rfl, hbA, hcA⟩ := HA.out (k) _ hr
        have r_0 : w.cell? ⟨bA, offA + k * 2, none⟩ = some (.int .i64 r.1) := by exact hcA (k) _ hr 0 _ rfl
        have r_1 : w.cell? ⟨bA, offA + k * 2 + 1, none⟩ = some (.int .i64 r.2) := by exact hcA (k) _ hr 1 _ rfl
        have hbA2 : bA < w.heap.size + 1 := by omega
        have HAc := Lib.hid hcA
        have Hr := Lib.hid hr
        clear hr hcA
        obtain ⟨q, hq⟩ : ∃ el_, (b)[k]? = some el_ := ⟨_, List.getElem?_eq_getElem (by first | exact hlt | omega)⟩
        obtain ⟨bB, offB, rfl, hbB, hcB⟩ := HB.out (k) _ hq
        have q_0 : w.cell? ⟨bB, offB + k * 2, none⟩ = some (.int .i64 q.1) := by exact hcB (k) _ hq 0 _ rfl
        have q_1 : w.cell? ⟨bB, offB + k * 2 + 1, none⟩ = some (.int .i64 q.2) := by exact hcB (k) _ hq 1 _ rfl
        have hbB2 : bB < w.heap.size + 1 := by omega
        have HBc := Lib.hid hcB
        have Hq := Lib.hid hq
        clear hq hcB
        go_wp2
        ((refine wp_region_kin0 (by kernel_rfl) (by kernel_rfl) ?_); (repeat' (first | go_big_quiet_step (fail) | ((refine wpQuiet_guard rfl rfl rfl rfl (fun hg => ?_) (fun hg => ?_)) <;> (fail_if_success (first | guard_hyp hg : true = true | guard_hyp hg : false = false)) <;> (try simp only [decide_eq_true_eq, decide_eq_false_iff_not] at hg) <;> simp only [Act.put, List.setIfInBounds_toArray, List.set_cons_zero, List.set_cons_succ]))); all_goals ((with_reducible refine wpQuiet_nil ?_); rintro _ ⟨zq, rfl⟩))
        go_wp2
        all_goals first
          | (go_ret
             refine ⟨ret_bool ?_, (by repeat (first | with_reducible (first | exact blA | exact blB | refine blC _ ?_ | refine blD ?_ ?_ _ | refine blE ?_ | refine blF _ ?_ | refine blG ?_ _ | refine blH ?_ | refine blI ?_ ?_ _) | (simp only [World.size_alloc]; omega) | (simp <;> omega)))⟩
             have hne : r ≠ q := by simp_all [eqp_no]
             symm
             rw [decide_eq_false_iff_not]
             rintro rfl
             exact hne (Option.some.inj (Hr.out.symm.trans Hq.out)))
          | (go_roundw
             case rel => exact ⟨k + 1, by omega, by go_num, take_eq_succ Hr.out Hq.out hm.out (by simp_all [eqp_iff]), ⟨_, (by repeat (first | with_reducible (first | exact blA | exact blB | refine blC _ ?_ | refine blD ?_ ?_ _ | refine blE ?_ | refine blF _ ?_ | refine blG ?_ _ | refine blH ?_ | refine blI ?_ ?_ _) | (simp only [World.size_alloc]; omega) | (simp <;> omega)))⟩, rfl⟩
             case measure => simp [intOf]; omega)
      · go_wp2
        go_ret
        have : k = b.length := by omega
        refine ⟨ret_bool ?_, (by repeat (first | with_reducible (first | exact blA | exact blB | refine blC _ ?_ | refine blD ?_ ?_ _ | refine blE ?_ | refine blF _ ?_ | refine blG ?_ _ | refine blH ?_ | refine blI ?_ ?_ _) | (simp only [World.size_alloc]; omega) | (simp <;> omega)))⟩
        have h3 := hm.out
        rw [this, List.take_length, ← Hl.out, List.take_length] at h3
        rw [h3]; simp
  · have hl' : ((a.length : Int) != (b.length : Int)) = true := by simp; omega
    go_enter Try.func16, Try.ntmps16
    go_wp2
    go_ret
    refine ⟨ret_bool ?_, (by repeat (first | with_reducible (first | exact blA | exact blB | refine blC _ ?_ | refine blD ?_ ?_ _ | refine blE ?_ | refine blF _ ?_ | refine blG ?_ _ | refine blH ?_ | refine blI ?_ ?_ _) | (simp only [World.size_alloc]; omega) | (simp <;> omega)))⟩
    symm
    rw [decide_eq_false_iff_not]
    rintro rfl
    exact hl rfl
end Go.Proofs.Ytbdmibbpojmkiaa

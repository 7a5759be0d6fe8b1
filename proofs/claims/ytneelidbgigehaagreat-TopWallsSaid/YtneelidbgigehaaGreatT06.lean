/- Lemmas: RegWalks RegWalks2. -/
import Derived.Test.YtneelidbgigehaaGreatT05
import Derived.Test.YtneelidbgigehaaGreatT02
/- What the checks of regions return. -/
namespace Go.Proofs.YtneelidbgigehaaGreat
set_option linter.unusedSimpArgs false
set_option linter.unusedVariables false
open Go.RowKit Runs Reg
attribute [local go_sem] Kin.cell Kin.frozen Kin.lt0 Kin.lt1 Kin.lt2 Kin.lt3 run_mkf
set_option maxHeartbeats 400000 in
theorem okC_any (x : Int) (w : World) : Calls Tryz.prog 52 #[.int .i64 x] w fun e w' => e = .returned (.bool (okC x)) ∧ Below w.heap.size w w' := by
  go_enter Tryz.func52, Tryz.ntmps52
  go_wp2
  all_goals
    go_ret
    exact ⟨ret_bool (by simp [okC, *] <;> omega), gRw⟩
set_option maxHeartbeats 4000000 in
theorem inside18_any (v : Value) (l : List Run) (x : Int) (w : World) (h : Rd 2 encRun w v l) (hlen : l.length ≤ 9223372036854775807) :
    Calls Tryz.prog 117 #[v, .int .i64 x] w fun e w' => e = .returned (.bool (mem l x)) ∧ Below w.heap.size w w' := by
  obtain ⟨A, capA, rfl, hcapA, hopA⟩ := h.open_
  have HA := Lib.hid hopA
  have HLA := Lib.hid h
  clear hopA h
  go_enter Tryz.func117, Tryz.ntmps117
  go_wp2
  go_loopw [5] (fun i wr => ∃ k : Nat, k ≤ l.length ∧ i = .int .i64 k ∧ Hid (mem (l.take k) x = false) ∧ ∃ z : Kin w, z.1 = wr) (fun i _ => l.length - (intOf i).toNat)
  case atStart => exact ⟨0, Nat.zero_le _, rfl, rfl, ⟨w, Below.refl _ _⟩, rfl⟩
  case round =>
    obtain ⟨k, hk, rfl, hm, z, rfl⟩ := hrel
    by_cases hlt : k < l.length
    · obtain ⟨r, hr⟩ : ∃ el_, (l)[k]? = some el_ := ⟨_, List.getElem?_eq_getElem (by first | exact hlt | omega)⟩
      obtain ⟨bA, offA, rfl, hbA, hcA⟩ := HA.out (k) _ hr
      have r_0 : w.cell? ⟨bA, offA + k * 2, none⟩ = some (.int .i64 r.1) := by exact hcA (k) _ hr 0 _ rfl
      have r_1 : w.cell? ⟨bA, offA + k * 2 + 1, none⟩ = some (.int .i64 r.2) := by exact hcA (k) _ hr 1 _ rfl
      have hbA2 : bA < w.heap.size + 1 := by omega
      have HAc := Lib.hid hcA
      have Hr := Lib.hid hr
      clear hr hcA
      go_wp2
      all_goals first
        | (go_ret; exact ⟨ret_bool (mem_hit Hr.out (by omega) (by omega)).symm, gRw⟩)
        | (go_roundw
           case rel => exact ⟨k + 1, by omega, by go_num, mem_take_no Hr.out hm.out (by omega), z, rfl⟩
           case measure => simp [intOf]; omega)
    · go_wp2
      go_ret
      have : k = l.length := by omega
      exact ⟨ret_bool (by rw [← hm.out, this, List.take_length]), gRw⟩
/-- one step of the chapter's fine -/
def fstep (l : List Run) (k : Nat) : Bool := match l[k]? with
  | none => true
  | some r => inC r && decide (r.1 < r.2) && (k == 0 || (match l[k - 1]? with | none => true | some q => decide (q.2 < r.1)))
def fineTo (l : List Run) (k : Nat) : Bool := (List.range k).all (fstep l)
theorem fineTo_succ {l : List Run} {k : Nat} (h1 : fineTo l k = true) (h : fstep l k = true) : fineTo l (k + 1) = true := by
  simp only [fineTo, List.range_succ, List.all_append, List.all_cons, List.all_nil, Bool.and_true, Bool.and_eq_true] at *
  exact ⟨h1, h⟩
theorem fine_steps (l : List Run) : fine l = (fineTo l l.length && !l.isEmpty) := by
  have e : ∀ k, k < l.length → fstep l k = (vstep l k && inC l[k]!) := fun k hk => by
    have h1 : l[k]? = some l[k] := List.getElem?_eq_getElem hk
    have h2 : l[k]! = l[k] := by simp [hk]
    simp only [fstep, vstep, h1, h2]
    rw [Bool.eq_iff_iff]
    simp only [Bool.and_eq_true, decide_eq_true_eq, inC, fits]
    constructor
    · rintro ⟨⟨a, b⟩, c⟩; exact ⟨⟨⟨b, by omega⟩, c⟩, a⟩
    · rintro ⟨⟨⟨b, d⟩, c⟩, a⟩; exact ⟨⟨a, b⟩, c⟩
  have h : fineTo l l.length = (valid l && l.all inC) := by
    rw [Bool.eq_iff_iff]
    simp only [fineTo, valid, validTo, Bool.and_eq_true, List.all_eq_true, List.mem_range]
    constructor
    · intro h
      refine ⟨fun k hk => ?_, fun r hr => ?_⟩
      · have := h k hk; rw [e k hk] at this; simp at this; exact this.1
      · obtain ⟨k, hk, rfl⟩ := List.getElem_of_mem hr
        have := h k hk; rw [e k hk] at this; simp [hk] at this; exact this.2
    · rintro ⟨h1, h2⟩ k hk
      rw [e k hk, h1 k hk]
      simpa [hk] using h2 l[k] (List.getElem_mem hk)
  unfold fine
  rw [h]
theorem fine_no {l : List Run} {k : Nat} (hk : k < l.length) (h : fstep l k = false) : fine l = false := by
  rw [fine_steps]
  have : fineTo l l.length = false := by
    simp only [fineTo, List.all_eq_false]
    exact ⟨k, by simpa using hk, by simp [h]⟩
  rw [this]; rfl
theorem fstep_f1 {l : List Run} {k : Nat} {r : Run} (hr : l[k]? = some r) (h : ¬ (-4096 ≤ r.1 ∧ r.2 ≤ 4096 ∧ r.1 < r.2)) : fstep l k = false := by
  simp only [fstep, hr]
  rw [Bool.eq_false_iff]
  intro hc
  simp [inC] at hc
  omega
theorem fstep_f3 {l : List Run} {k : Nat} {r q : Run} (hr : l[k]? = some r) (hq : ∀ x, l[k - 1]? = some x → x = q) (h0 : 0 < k) (h : r.1 ≤ q.2) : fstep l k = false := by
  have hk : k < l.length := (List.getElem?_eq_some_iff.1 hr).1
  have hl : l[k - 1]? = some l[k - 1] := List.getElem?_eq_getElem (by omega)
  have := hq _ hl
  have h1 : decide (q.2 < r.1) = false := decide_eq_false (by omega)
  have h2 : (k == 0) = false := by simp; omega
  simp [fstep, hr, hl, this, h1, h2]
theorem fstep_t {l : List Run} {k : Nat} {r q : Run} (hr : l[k]? = some r) (hq : ∀ x, l[k - 1]? = some x → x = q) (h1 : -4096 ≤ r.1 ∧ r.2 ≤ 4096 ∧ r.1 < r.2) (h3 : 0 < k → ¬ r.1 ≤ q.2) : fstep l k = true := by
  have hk : k < l.length := (List.getElem?_eq_some_iff.1 hr).1
  have hl : l[k - 1]? = some l[k - 1] := List.getElem?_eq_getElem (by omega)
  have := hq _ hl
  simp only [fstep, hr, hl, this, inC, Bool.and_eq_true, Bool.or_eq_true, beq_iff_eq, decide_eq_true_eq]
  refine ⟨⟨by omega, by omega⟩, ?_⟩
  rcases Nat.eq_zero_or_pos k with h0 | h0
  · exact .inl h0
  · exact .inr (by have := h3 h0; omega)
set_option maxRecDepth 100000 in
set_option maxHeartbeats 4000000 in
theorem fine18_any (v : Value) (l : List Run) (w : World) (h : Rd 2 encRun w v l) (hlen : l.length ≤ 9223372036854775807) :
    Calls Tryz.prog 19 #[v] w fun e w' => e = .returned (.bool (fine l)) ∧ Below w.heap.size w w' := by
  obtain ⟨A, capA, rfl, hcapA, hopA⟩ := h.open_
  have HA := Lib.hid hopA
  have HLA := Lib.hid h
  clear hopA h
  go_enter Tryz.func19, Tryz.ntmps19
  go_wp2
  go_loopw [3] (fun i wr => ∃ k : Nat, k ≤ l.length ∧ i = .int .i64 k ∧ Hid (fineTo l k = true) ∧ ∃ z : Kin w, z.1 = wr) (fun i _ => l.length - (intOf i).toNat)
  case atStart => exact ⟨0, Nat.zero_le _, rfl, rfl, ⟨w, Below.refl _ _⟩, rfl⟩
  case round =>
    obtain ⟨k, hk, rfl, hval, z, rfl⟩ := hrel
    by_cases hlt : k < l.length
    · obtain ⟨r, hr⟩ : ∃ el_, (l)[k]? = some el_ := ⟨_, List.getElem?_eq_getElem (by first | exact hlt | omega)⟩
      obtain ⟨bA, offA, rfl, hbA, hcA⟩ := HA.out (k) _ hr
      have r_0 : w.cell? ⟨bA, offA + k * 2, none⟩ = some (.int .i64 r.1) := by exact hcA (k) _ hr 0 _ rfl
      have r_1 : w.cell? ⟨bA, offA + k * 2 + 1, none⟩ = some (.int .i64 r.2) := by exact hcA (k) _ hr 1 _ rfl
      have hbA2 : bA < w.heap.size + 1 := by omega
      have HAc := Lib.hid hcA
      have Hr := Lib.hid hr
      clear hr hcA
      obtain ⟨q, hq⟩ : ∃ q : Run, ∀ x, l[k - 1]? = some x → x = q := ⟨(l[k - 1]?).getD (0, 0), fun x hx => by simp [hx]⟩
      have cq : (0 : Int) < (k : Int) → w.cell? ⟨bA, offA + (k - 1) * 2 + 1, none⟩ = some (.int .i64 q.2) := fun h0 => by
        have hl : l[k - 1]? = some l[k - 1] := List.getElem?_eq_getElem (by omega)
        have := HAc.out (k - 1) _ hl 1 _ rfl
        rw [hq _ hl] at this
        exact this
      have Hq := Lib.hid hq
      clear hq
      go_wp2
      ((refine wp_region_kinK (W := w) (by kernel_rfl) (by kernel_rfl) gRw ?_); (repeat' (first | go_big_quiet_step (fail) | ((refine wpQuiet_guard rfl rfl rfl rfl (fun hg => ?_) (fun hg => ?_)) <;> (fail_if_success (first | guard_hyp hg : true = true | guard_hyp hg : false = false)) <;> (try simp only [decide_eq_true_eq, decide_eq_false_iff_not] at hg) <;> simp only [Act.put, List.setIfInBounds_toArray, List.set_cons_zero, List.set_cons_succ]))); all_goals ((with_reducible refine wpQuiet_nil ?_); intro zq hz))
      all_goals go_wp2
      all_goals first
        | (go_ret; refine ⟨ret_bool ?_, gRw⟩; refine (fine_no hlt ?_).symm; first | (refine fstep_f1 Hr.out ?_; omega) | (refine fstep_f3 Hr.out Hq.out ?_ ?_ <;> omega))
        | (go_roundw
           case rel =>
             refine ⟨k + 1, by omega, by go_num, fineTo_succ hval.out (fstep_t Hr.out Hq.out (by omega) (by omega)), zq, rfl⟩
           case measure => simp [intOf]; omega)
    · go_wp2
      go_ret
      have : k = l.length := by omega
      refine ⟨ret_bool ?_, gRw⟩
      rw [fine_steps, ← this, hval.out]
      rw [Bool.eq_iff_iff]
      simp
      rw [this]
      exact List.length_pos_iff
theorem not_t {b : Bool} (h : (!b) = true) : b = false := by simpa using h
theorem not_f {b : Bool} (h : (!b) = false) : b = true := by simpa using h
theorem rvalid_false {rows : List Reg.Row} {k : Nat} (hk : k < rows.length) (h : rstep rows k = false) : rvalid rows = false := by
  simp only [rvalid, rvalidTo, List.all_eq_false]
  exact ⟨k, by simpa using hk, by simp [h]⟩
theorem rvalidTo_succ {rows : List Reg.Row} {k : Nat} (h1 : rvalidTo rows k = true) (h : rstep rows k = true) : rvalidTo rows (k + 1) = true := by
  simp only [rvalidTo, List.range_succ, List.all_append, List.all_cons, List.all_nil, Bool.and_true, Bool.and_eq_true] at *
  exact ⟨h1, h⟩
theorem rstep_f1 {rows : List Reg.Row} {k : Nat} {w : Reg.Row} (hw : rows[k]? = some w) (h : okC w.1 = false) : rstep rows k = false := by simp [rstep, hw, h]
theorem rstep_f2 {rows : List Reg.Row} {k : Nat} {w : Reg.Row} (hw : rows[k]? = some w) (h : fine w.2 = false) : rstep rows k = false := by simp [rstep, hw, h]
theorem rstep_f3 {rows : List Reg.Row} {k : Nat} {w q : Reg.Row} (hw : rows[k]? = some w) (hq : ∀ x, rows[k - 1]? = some x → x = q) (h0 : 0 < k) (h : w.1 ≤ q.1) : rstep rows k = false := by
  have hk : k < rows.length := (List.getElem?_eq_some_iff.1 hw).1
  have hl : rows[k - 1]? = some rows[k - 1] := List.getElem?_eq_getElem (by omega)
  have := hq _ hl
  have h1 : decide (q.1 < w.1) = false := decide_eq_false (by omega)
  have h2 : (k == 0) = false := by simp; omega
  simp [rstep, hw, hl, this, h1, h2]
theorem rstep_t {rows : List Reg.Row} {k : Nat} {w q : Reg.Row} (hw : rows[k]? = some w) (hq : ∀ x, rows[k - 1]? = some x → x = q) (h1 : okC w.1 = true) (h2 : fine w.2 = true) (h3 : 0 < k → ¬ w.1 ≤ q.1) : rstep rows k = true := by
  have hk : k < rows.length := (List.getElem?_eq_some_iff.1 hw).1
  have hl : rows[k - 1]? = some rows[k - 1] := List.getElem?_eq_getElem (by omega)
  have := hq _ hl
  simp only [rstep, hw, hl, this, h1, h2, Bool.and_eq_true, Bool.or_eq_true, beq_iff_eq, decide_eq_true_eq]
  refine ⟨⟨trivial, ?_⟩, trivial⟩
  rcases Nat.eq_zero_or_pos k with h0 | h0
  · exact .inl h0
  · exact .inr (by have := h3 h0; omega)
/-- how many rows and runs a region has that the walks speak of -/
def RBd (rows : List Reg.Row) : Prop := rows.length ≤ 9223372036854775807 ∧ ∀ w ∈ rows, w.2.length ≤ 9223372036854775807
set_option maxRecDepth 100000 in
set_option maxHeartbeats 4000000 in
theorem valid18_any (v : Value) (rows : List Reg.Row) (w : World) (h : RdReg w v rows) (hbd : RBd rows) :
    Calls Tryz.prog 5 #[v] w fun e w' => e = .returned (.bool (rvalid rows)) ∧ Below w.heap.size w w' := by
  obtain ⟨s, rfl, h⟩ := h
  obtain ⟨A, capA, rfl, hcapA, hopA⟩ := rows_open h
  have HA := Lib.hid hopA
  have HLA := Lib.hid h
  clear hopA h
  have hlen := hbd.1
  have Hbd := Lib.hid hbd.2
  clear hbd
  go_enter Tryz.func5, Tryz.ntmps5
  go_wp2
  go_loopw [3] (fun i wr => ∃ k : Nat, k ≤ rows.length ∧ i = .int .i64 k ∧ Hid (rvalidTo rows k = true) ∧ ∃ z : Kin (w.alloc (.cells #[.slice A rows.length capA] 24)), z.1 = wr) (fun i _ => rows.length - (intOf i).toNat)
  case atStart => exact ⟨0, Nat.zero_le _, rfl, rfl, ⟨_, Below.refl _ _⟩, rfl⟩
  case round =>
    obtain ⟨k, hk, rfl, hval, z, rfl⟩ := hrel
    by_cases hlt : k < rows.length
    · obtain ⟨r, hr⟩ : ∃ el_, (rows)[k]? = some el_ := ⟨_, List.getElem?_eq_getElem (by first | exact hlt | omega)⟩
      obtain ⟨bA, offA, ⟨⟩, hbA, hcA⟩ := HA.out (k) _ hr
      have hbA2 : bA < w.heap.size + 1 := by omega
      have HAc := Lib.hid hcA
      clear hcA
      obtain ⟨S, capS, r_0, r_1, hcapS, hrS⟩ := HAc.out (k) r hr
      have HLS := Lib.hid hrS
      have Hr := Lib.hid hr
      clear hr hrS
      obtain ⟨q, hq⟩ : ∃ q : Reg.Row, ∀ x, rows[k - 1]? = some x → x = q := ⟨(rows[k - 1]?).getD (0, []), fun x hx => by simp [hx]⟩
      have cq : (0 : Int) < (k : Int) → w.cell? ⟨bA, offA + (k - 1) * 2, none⟩ = some (.int .i64 q.1) := fun h0 => by
        have hl : rows[k - 1]? = some rows[k - 1] := List.getElem?_eq_getElem (by omega)
        obtain ⟨_, _, this, _⟩ := HAc.out (k - 1) _ hl
        rw [hq _ hl] at this
        exact this
      have Hq := Lib.hid hq
      clear hq
      have hrl := Hbd.out r (List.mem_of_getElem? Hr.out)
      go_wp2_with (go_at_call 19; (with_reducible refine (Kin.callK (W := w.alloc (.cells #[.slice (some ⟨bA, offA, none⟩) rows.length capA] 24)) gRw (fine18_any _ r.2 _ (HLS.out.below gRw) (by omega))).mono ?_); rintro e w' ⟨z, rfl, hz, rfl⟩)
      all_goals first
        | (go_ret; refine ⟨ret_bool ?_, gRw⟩; refine (rvalid_false hlt ?_).symm; first | (refine rstep_f1 Hr.out ?_; unfold okC; rw [decide_eq_false_iff_not]; omega) | (refine rstep_f3 Hr.out Hq.out ?_ ?_ <;> omega) | (refine rstep_f2 Hr.out ?_; rcases ‹_ ∨ (!fine r.2) = true› with h | h <;> first | exact not_t h | (exfalso; omega)))
        | (go_roundw
           case rel =>
             refine ⟨k + 1, by omega, by go_num, rvalidTo_succ hval.out (rstep_t Hr.out Hq.out (by unfold okC; rw [decide_eq_true_eq]; omega) (not_f (by first | assumption | exact (‹_ ∧ (!fine r.2) = false›).2)) (by omega)), ⟨_, gRw⟩, rfl⟩
           case measure => simp [intOf]; omega)
    · go_wp2
      go_ret
      have : k = rows.length := by omega
      exact ⟨ret_bool (by rw [rvalid, ← this]; exact hval.out.symm), gRw⟩
end Go.Proofs.YtneelidbgigehaaGreat

/- What region.Valid returns. -/
namespace Go.Proofs.YtneelidbgigehaaGreat
set_option linter.unusedSimpArgs false
set_option linter.unusedVariables false
open Go.RowKit Runs Reg
attribute [local go_sem] Kin.cell Kin.frozen Kin.lt0 Kin.lt1 Kin.lt2 Kin.lt3 run_mkf
theorem fine_empty {l : List Run} (h : l.length = 0) : fine l = false := by
  have : l = [] := List.eq_nil_of_length_eq_zero h
  subst this; rfl
theorem fine_invalid {l : List Run} (h : valid l = false) : fine l = false := by unfold fine; rw [h]; rfl
set_option maxRecDepth 100000 in
set_option maxHeartbeats 4000000 in
theorem rvalid_any (v : Value) (rows : List Reg.Row) (w : World) (h : RdReg w v rows) (hbd : RBd rows) :
    Calls Tryz.prog 27 #[v] w fun e w' => e = .returned (.bool (rvalid rows)) ∧ Below w.heap.size w w' := by
  obtain ⟨s, rfl, h⟩ := h
  obtain ⟨A, capA, rfl, hcapA, hopA⟩ := rows_open h
  have HA := Lib.hid hopA
  have HLA := Lib.hid h
  clear hopA h
  have hlen := hbd.1
  have Hbd := Lib.hid hbd.2
  clear hbd
  go_enter Tryz.func27, Tryz.ntmps27
  go_wp2
  go_loopw [8] (fun i wr => ∃ k : Nat, k ≤ rows.length ∧ i = .int .i64 k ∧ Hid (rvalidTo rows k = true) ∧ ∃ z : Kin (w.alloc (.cells #[.slice A rows.length capA] 24)), z.1 = wr) (fun i _ => rows.length - (intOf i).toNat)
  case atStart => exact ⟨0, Nat.zero_le _, rfl, rfl, ⟨_, Below.refl _ _⟩, rfl⟩
  case round =>
    obtain ⟨k, hk, rfl, hval, z, rfl⟩ := hrel
    by_cases hlt : k < rows.length
    · obtain ⟨r, hr⟩ : ∃ el_, (rows)[k]? = some el_ := ⟨_, List.getElem?_eq_getElem (by first | exact hlt | omega)⟩
      obtain ⟨bA, offA, ⟨⟩, hbA, hcA⟩ := HA.out (k) _ hr
      have hbA2 : bA < w.heap.size + 1 := by omega
      have HAc := Lib.hid hcA
      clear hcA
      obtain ⟨S, capS, r_0, r_1, hcapS, hrS⟩ := HAc.out (k) r hr
      have HLS := Lib.hid hrS
      have Hr := Lib.hid hr
      clear hr hrS
      obtain ⟨q, hq⟩ : ∃ q : Reg.Row, ∀ x, rows[k - 1]? = some x → x = q := ⟨(rows[k - 1]?).getD (0, []), fun x hx => by simp [hx]⟩
      have cq : (0 : Int) < (k : Int) → w.cell? ⟨bA, offA + (k - 1) * 2, none⟩ = some (.int .i64 q.1) := fun h0 => by
        have hl : rows[k - 1]? = some rows[k - 1] := List.getElem?_eq_getElem (by omega)
        obtain ⟨_, _, this, _⟩ := HAc.out (k - 1) _ hl
        rw [hq _ hl] at this
        exact this
      have Hq := Lib.hid hq
      clear hq
      have hrl := Hbd.out r (List.mem_of_getElem? Hr.out)
      by_cases h0 : r.2.length = 0
      · have hf0 := Lib.hid (fine_empty h0)
        have hb0 : (((r.2.length : Nat) : Int) == 0) = true := by simp [h0]
        clear h0
        go_wp2
        ((refine wp_region_kinK (W := w.alloc (.cells #[.slice (some ⟨bA, offA, none⟩) rows.length capA] 24)) (by kernel_rfl) (by kernel_rfl) gRw ?_); (repeat' (first | go_big_quiet_step (first | (go_at_call 52; exact Kin.quiet _ (okC_any _ _)) | (go_at_call 53; exact Kin.quiet _ (valid_any _ r.2 _ (HLS.out.below gRw) (by omega)))) | ((refine wpQuiet_guard rfl rfl rfl rfl (fun hg => ?_) (fun hg => ?_)) <;> (fail_if_success (first | guard_hyp hg : true = true | guard_hyp hg : false = false)) <;> (try simp only [decide_eq_true_eq, decide_eq_false_iff_not] at hg) <;> simp only [Act.put, List.setIfInBounds_toArray, List.set_cons_zero, List.set_cons_succ]))); all_goals ((with_reducible refine wpQuiet_nil ?_); intro zq hz))
        all_goals go_wp2
        all_goals (go_ret; refine ⟨ret_bool ?_, gRw⟩; refine (rvalid_false hlt ?_).symm; first | exact rstep_f2 Hr.out hf0.out | (refine rstep_f1 Hr.out ?_; exact not_t (by assumption)) | (refine rstep_f3 Hr.out Hq.out ?_ ?_ <;> omega))
      · have HS := Lib.hid (Rd.op HLS.out)
        have HLS := Lib.hid HLS.out
        obtain ⟨e, he⟩ : ∃ el_, (r.2)[0]? = some el_ := ⟨_, List.getElem?_eq_getElem (by first | exact (by omega) | omega)⟩
        obtain ⟨bS, offS, rfl, hbS, hcS⟩ := HS.out (0) _ he
        have e_0 : w.cell? ⟨bS, offS + 0 * 2, none⟩ = some (.int .i64 e.1) := by exact hcS (0) _ he 0 _ rfl
        have e_1 : w.cell? ⟨bS, offS + 0 * 2 + 1, none⟩ = some (.int .i64 e.2) := by exact hcS (0) _ he 1 _ rfl
        have hbS2 : bS < w.heap.size + 1 := by omega
        have HSc := Lib.hid hcS
        have He := Lib.hid he
        clear he hcS
        rw [show offS + 0 * 2 = offS from by omega] at e_0
        obtain ⟨f, hf⟩ : ∃ el_, (r.2)[r.2.length - 1]? = some el_ := ⟨_, List.getElem?_eq_getElem (by first | exact (by omega) | omega)⟩
        have f_0 : w.cell? ⟨bS, offS + (r.2.length - 1) * 2, none⟩ = some (.int .i64 f.1) := by exact HSc.out (r.2.length - 1) _ hf 0 _ rfl
        have f_1 : w.cell? ⟨bS, offS + (r.2.length - 1) * 2 + 1, none⟩ = some (.int .i64 f.2) := by exact HSc.out (r.2.length - 1) _ hf 1 _ rfl
        have Hf := Lib.hid hf
        clear hf
        have hb0 : (((r.2.length : Nat) : Int) == 0) = false := by rw [beq_eq_false_iff_ne]; omega
        go_wp2
        ((refine wp_region_kinK (W := w.alloc (.cells #[.slice (some ⟨bA, offA, none⟩) rows.length capA] 24)) (by kernel_rfl) (by kernel_rfl) gRw ?_); (repeat' (first | go_big_quiet_step (first | (go_at_call 52; exact Kin.quiet _ (okC_any _ _)) | (go_at_call 53; exact Kin.quiet _ (valid_any _ r.2 _ (HLS.out.below gRw) (by omega)))) | ((refine wpQuiet_guard rfl rfl rfl rfl (fun hg => ?_) (fun hg => ?_)) <;> (fail_if_success (first | guard_hyp hg : true = true | guard_hyp hg : false = false)) <;> (try simp only [decide_eq_true_eq, decide_eq_false_iff_not] at hg) <;> simp only [Act.put, List.setIfInBounds_toArray, List.set_cons_zero, List.set_cons_succ]))); all_goals ((with_reducible refine wpQuiet_nil ?_); intro zq hz))
        all_goals
          have hP := Lib.hid ((Blk.new z.1 44 #[.int .i64 r.1, .slice (some ⟨bS, offS, none⟩) r.2.length capS]).below hz)
          have p1 : zq.1.cell? ⟨z.1.heap.size, 1, none⟩ = some (.slice (some ⟨bS, offS, none⟩) r.2.length capS) := hP.out.cell 1
          have plt := hP.out.lt
          go_wp2_with (go_at_call 52; (with_reducible refine (Kin.callK (W := w.alloc (.cells #[.slice (some ⟨bA, offA, none⟩) rows.length capA] 24)) gRw (okC_any _ _)).mono ?_); rintro e w' ⟨z3, rfl, hz3, rfl⟩; (first | (have p3 : (Kin.wd z3).cell? ⟨(Kin.wd z).heap.size, 1, none⟩ = some (.slice (some ⟨bS, offS, none⟩) r.2.length capS) := (hP.out.below hz3).cell 1; have plt3 := (hP.out.below hz3).lt; clear p1 plt) | skip))
        all_goals first
          | (go_ret; refine ⟨ret_bool ?_, gRw⟩; refine (rvalid_false hlt ?_).symm; first | (refine rstep_f1 Hr.out ?_; exact not_t (by assumption)) | (refine rstep_f3 Hr.out Hq.out ?_ ?_ <;> omega) | (refine rstep_f2 Hr.out (fine_invalid ?_); exact not_t (by assumption)))
          | skip
        all_goals
          have hv : valid r.2 = true := not_f (by assumption)
          have ho : okC r.1 = true := not_f (by assumption)
          have hb := valid_fits hv Hf.out
          have hw : wrap64 (f.2 - 1) = f.2 - 1 := IntWalk.wrap64_in _ (by omega)
          have hfe := fine_ends hv (n := r.2.length - 1) (by omega) He.out Hf.out
          first
            | (go_ret; refine ⟨ret_bool ?_, gRw⟩; refine (rvalid_false hlt (rstep_f2 Hr.out ?_)).symm; rw [hfe]; simp only [Bool.and_eq_false_iff]; first | (left; rw [Bool.eq_false_iff]; assumption) | (right; rw [← hw]; apply not_t; assumption))
            | (have hf : fine r.2 = true := by (rw [hfe]; simp only [Bool.and_eq_true]; constructor; assumption; rw [← hw]; apply not_f; assumption)
               go_roundw
               case rel => exact ⟨k + 1, by omega, by go_num, rvalidTo_succ hval.out (rstep_t Hr.out Hq.out ho hf (by omega)), z3, rfl⟩
               case measure => simp [intOf]; omega)
    · go_wp2
      go_ret
      have : k = rows.length := by omega
      exact ⟨ret_bool (by rw [rvalid, ← this]; exact hval.out.symm), gRw⟩
theorem rvalid_is {b : Bool} (v : Value) (rows : List Reg.Row) (w : World) (h : RdReg w v rows) (hbd : RBd rows) (hv : rvalid rows = b) :
    Calls Tryz.prog 27 #[v] w fun e w' => e = .returned (.bool b) ∧ Below w.heap.size w w' := by subst hv; exact rvalid_any v rows w h hbd
theorem valid18_is {b : Bool} (v : Value) (rows : List Reg.Row) (w : World) (h : RdReg w v rows) (hbd : RBd rows) (hv : rvalid rows = b) :
    Calls Tryz.prog 5 #[v] w fun e w' => e = .returned (.bool b) ∧ Below w.heap.size w w' := by subst hv; exact valid18_any v rows w h hbd
theorem vreg_bd {rows : List Reg.Row} (h : VReg rows) : RBd rows := ⟨Nat.le_trans (vreg_len h).1 (by decide), fun w hw => Nat.le_trans ((vreg_len h).2 w hw) (by decide)⟩
end Go.Proofs.YtneelidbgigehaaGreat

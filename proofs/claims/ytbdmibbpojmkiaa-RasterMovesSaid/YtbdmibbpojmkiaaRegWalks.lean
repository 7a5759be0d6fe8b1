/- What the checks of regions return. -/
import Derived.Test.YtbdmibbpojmkiaaRegKit
namespace Go.Proofs.Ytbdmibbpojmkiaa
set_option linter.unusedSimpArgs false
set_option linter.unusedVariables false
open Go.RowKit Runs Reg
attribute [local go_sem] Kin.cell Kin.frozen Kin.lt0 Kin.lt1 Kin.lt2 Kin.lt3 run_mkf
set_option maxHeartbeats 400000 in
theorem okC_any (x : Int) (w : World) : Calls Try.prog 37 #[.int .i64 x] w fun e w' => e = .returned (.bool (okC x)) ∧ Below w.heap.size w w' := by
  go_enter Try.func37, Try.ntmps37
  go_wp2
  all_goals
    go_ret
    exact ⟨ret_bool (by simp [okC, *] <;> omega), (by repeat (first | with_reducible (first | exact blA | exact blB | refine blC _ ?_ | refine blD ?_ ?_ _ | refine blE ?_ | refine blF _ ?_ | refine blG ?_ _ | refine blH ?_ | refine blI ?_ ?_ _) | (simp only [World.size_alloc]; omega) | (simp <;> omega)))⟩
/-- one step of the chapter's fine -/
def fstep (l : List Run) (k : Nat) : Bool := match l[k]? with
  | none => true
  | some r => inC r && decide (r.1 < r.2) && (k == 0 || (match l[k - 1]? with | none => true | some q => decide (q.2 < r.1)))
def fineTo (l : List Run) (k : Nat) : Bool := (List.range k).all (fstep l)
theorem fineTo_succ {l : List Run} {k : Nat} (h1 : fineTo l k = true) (h : fstep l k = true) : fineTo l (k + 1) = true := by
  simp only [fineTo, List.range_succ, List.all_append, List.all_cons, List.all_nil, Bool.and_true, Bool.and_eq_true] at *
  exact ⟨h1, h⟩
theorem fine_steps (l : List Run) : fine l = (fineTo l l.length && !l.isEmpty) := by
  have e : ∀ k, k < l.length → fstep l k = (vstep l k && inC l[k]!) := fun k hk => by
    have h1 : l[k]? = some l[k] := List.getElem?_eq_getElem hk
    have h2 : l[k]! = l[k] := by simp [hk]
    simp only [fstep, vstep, h1, h2]
    rw [Bool.eq_iff_iff]
    simp only [Bool.and_eq_true, decide_eq_true_eq, inC, fits]
    constructor
    · rintro ⟨⟨a, b⟩, c⟩; exact ⟨⟨⟨b, by omega⟩, c⟩, a⟩
    · rintro ⟨⟨⟨b, d⟩, c⟩, a⟩; exact ⟨⟨a, b⟩, c⟩
  have h : fineTo l l.length = (valid l && l.all inC) := by
    rw [Bool.eq_iff_iff]
    simp only [fineTo, valid, validTo, Bool.and_eq_true, List.all_eq_true, List.mem_range]
    constructor
    · intro h
      refine ⟨fun k hk => ?_, fun r hr => ?_⟩
      · have := h k hk; rw [e k hk] at this; simp at this; exact this.1
      · obtain ⟨k, hk, rfl⟩ := List.getElem_of_mem hr
        have := h k hk; rw [e k hk] at this; simp [hk] at this; exact this.2
    · rintro ⟨h1, h2⟩ k hk
      rw [e k hk, h1 k hk]
      simpa [hk] using h2 l[k] (List.getElem_mem hk)
  unfold fine
  rw [h]
theorem fine_no {l : List Run} {k : Nat} (hk : k < l.length) (h : fstep l k = false) : fine l = false := by
  rw [fine_steps]
  have : fineTo l l.length = false := by
    simp only [fineTo, List.all_eq_false]
    exact ⟨k, by simpa using hk, by simp [h]⟩
  rw [this]; rfl
theorem fstep_f1 {l : List Run} {k : Nat} {r : Run} (hr : l[k]? = some r) (h : ¬ (-4096 ≤ r.1 ∧ r.2 ≤ 4096 ∧ r.1 < r.2)) : fstep l k = false := by
  simp only [fstep, hr]
  rw [Bool.eq_false_iff]
  intro hc
  simp [inC] at hc
  omega
theorem fstep_f3 {l : List Run} {k : Nat} {r q : Run} (hr : l[k]? = some r) (hq : ∀ x, l[k - 1]? = some x → x = q) (h0 : 0 < k) (h : r.1 ≤ q.2) : fstep l k = false := by
  have hk : k < l.length := (List.getElem?_eq_some_iff.1 hr).1
  have hl : l[k - 1]? = some l[k - 1] := List.getElem?_eq_getElem (by omega)
  have := hq _ hl
  have h1 : decide (q.2 < r.1) = false := decide_eq_false (by omega)
  have h2 : (k == 0) = false := by simp; omega
  simp [fstep, hr, hl, this, h1, h2]
theorem fstep_t {l : List Run} {k : Nat} {r q : Run} (hr : l[k]? = some r) (hq : ∀ x, l[k - 1]? = some x → x = q) (h1 : -4096 ≤ r.1 ∧ r.2 ≤ 4096 ∧ r.1 < r.2) (h3 : 0 < k → ¬ r.1 ≤ q.2) : fstep l k = true := by
  have hk : k < l.length := (List.getElem?_eq_some_iff.1 hr).1
  have hl : l[k - 1]? = some l[k - 1] := List.getElem?_eq_getElem (by omega)
  have := hq _ hl
  simp only [fstep, hr, hl, this, inC, Bool.and_eq_true, Bool.or_eq_true, beq_iff_eq, decide_eq_true_eq]
  refine ⟨⟨by omega, by omega⟩, ?_⟩
  rcases Nat.eq_zero_or_pos k with h0 | h0
  · exact .inl h0
  · exact .inr (by have := h3 h0; omega)
theorem not_t {b : Bool} (h : (!b) = true) : b = false := by simpa using h
theorem not_f {b : Bool} (h : (!b) = false) : b = true := by simpa using h
theorem rvalid_false {rows : List Reg.Row} {k : Nat} (hk : k < rows.length) (h : rstep rows k = false) : rvalid rows = false := by
  simp only [rvalid, rvalidTo, List.all_eq_false]
  exact ⟨k, by simpa using hk, by simp [h]⟩
theorem rvalidTo_succ {rows : List Reg.Row} {k : Nat} (h1 : rvalidTo rows k = true) (h : rstep rows k = true) : rvalidTo rows (k + 1) = true := by
  simp only [rvalidTo, List.range_succ, List.all_append, List.all_cons, List.all_nil, Bool.and_true, Bool.and_eq_true] at *
  exact ⟨h1, h⟩
theorem rstep_f1 {rows : List Reg.Row} {k : Nat} {w : Reg.Row} (hw : rows[k]? = some w) (h : okC w.1 = false) : rstep rows k = false := by simp [rstep, hw, h]
theorem rstep_f2 {rows : List Reg.Row} {k : Nat} {w : Reg.Row} (hw : rows[k]? = some w) (h : fine w.2 = false) : rstep rows k = false := by simp [rstep, hw, h]
theorem rstep_f3 {rows : List Reg.Row} {k : Nat} {w q : Reg.Row} (hw : rows[k]? = some w) (hq : ∀ x, rows[k - 1]? = some x → x = q) (h0 : 0 < k) (h : w.1 ≤ q.1) : rstep rows k = false := by
  have hk : k < rows.length := (List.getElem?_eq_some_iff.1 hw).1
  have hl : rows[k - 1]? = some rows[k - 1] := List.getElem?_eq_getElem (by omega)
  have := hq _ hl
  have h1 : decide (q.1 < w.1) = false := decide_eq_false (by omega)
  have h2 : (k == 0) = false := by simp; omega
  simp [rstep, hw, hl, this, h1, h2]
theorem rstep_t {rows : List Reg.Row} {k : Nat} {w q : Reg.Row} (hw : rows[k]? = some w) (hq : ∀ x, rows[k - 1]? = some x → x = q) (h1 : okC w.1 = true) (h2 : fine w.2 = true) (h3 : 0 < k → ¬ w.1 ≤ q.1) : rstep rows k = true := by
  have hk : k < rows.length := (List.getElem?_eq_some_iff.1 hw).1
  have hl : rows[k - 1]? = some rows[k - 1] := List.getElem?_eq_getElem (by omega)
  have := hq _ hl
  simp only [rstep, hw, hl, this, h1, h2, Bool.and_eq_true, Bool.or_eq_true, beq_iff_eq, decide_eq_true_eq]
  refine ⟨⟨trivial, ?_⟩, trivial⟩
  rcases Nat.eq_zero_or_pos k with h0 | h0
  · exact .inl h0
  · exact .inr (by have := h3 h0; omega)
/-- how many rows and runs a region has that the walks speak of -/
def RBd (rows : List Reg.Row) : Prop := rows.length ≤ 9223372036854775807 ∧ ∀ w ∈ rows, w.2.length ≤ 9223372036854775807
end Go.Proofs.Ytbdmibbpojmkiaa

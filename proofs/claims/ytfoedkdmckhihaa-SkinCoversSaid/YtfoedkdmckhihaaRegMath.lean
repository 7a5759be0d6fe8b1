/- Regions as lists of rows of runs: validity and membership; with no program in sight. -/
import Derived.Test.YtfoedkdmckhihaaRunsMath2
namespace Go.Proofs.Ytfoedkdmckhihaa
set_option linter.unusedSimpArgs false
set_option linter.unusedVariables false
namespace Reg
open Runs
abbrev Row := Int × List Run
/-- a coordinate of a cell -/
def okC (x : Int) : Bool := decide (-4096 ≤ x ∧ x < 4096)
def inC (r : Run) : Bool := decide (-4096 ≤ r.1 ∧ r.2 ≤ 4096)
/-- the runs of a row of a region -/
def fine (l : List Run) : Bool := valid l && l.all inC && !l.isEmpty
def rstep (rows : List Row) (k : Nat) : Bool := match rows[k]? with
  | none => true
  | some w => okC w.1 && (k == 0 || (match rows[k - 1]? with | none => true | some v => decide (v.1 < w.1))) && fine w.2
def rvalidTo (rows : List Row) (k : Nat) : Bool := (List.range k).all (rstep rows)
def rvalid (rows : List Row) : Bool := rvalidTo rows rows.length
/-- what a valid region is -/
def VReg (rows : List Row) : Prop := (∀ w ∈ rows, okC w.1 = true ∧ fine w.2 = true) ∧ rows.Pairwise (fun v w => v.1 < w.1)
def memC (rows : List Row) (x y : Int) : Bool := rows.any (fun w => w.1 == y && mem w.2 x)
theorem rvalid_iff {rows : List Row} : rvalid rows = true ↔ VReg rows := by
  have step : ∀ k (hk : k < rows.length), rstep rows k = true ↔ (okC rows[k].1 = true ∧ fine rows[k].2 = true ∧ ∀ (h : 0 < k), rows[k-1].1 < rows[k].1) := by
    intro k hk
    have h1 : rows[k]? = some rows[k] := List.getElem?_eq_getElem hk
    have h2 : rows[k-1]? = some rows[k-1] := List.getElem?_eq_getElem (by omega)
    simp only [rstep, h1, h2, Bool.and_eq_true, Bool.or_eq_true, beq_iff_eq, decide_eq_true_eq]
    constructor
    · rintro ⟨⟨a, b⟩, c⟩; exact ⟨a, c, fun h => by rcases b with b | b; omega; exact b⟩
    · rintro ⟨a, c, b⟩; refine ⟨⟨a, ?_⟩, c⟩
      rcases Nat.eq_zero_or_pos k with h | h
      · exact .inl h
      · exact .inr (b h)
  have hall : rvalid rows = true ↔ ∀ k (hk : k < rows.length), (okC rows[k].1 = true ∧ fine rows[k].2 = true ∧ ∀ (h : 0 < k), rows[k-1].1 < rows[k].1) := by
    simp only [rvalid, rvalidTo, List.all_eq_true, List.mem_range]
    constructor
    · intro h k hk; exact (step k hk).1 (h k hk)
    · intro h k hk; exact (step k hk).2 (h k hk)
  rw [hall]
  constructor
  · intro h
    refine ⟨fun w hw => ?_, ?_⟩
    · obtain ⟨k, hk, rfl⟩ := List.getElem_of_mem hw; exact ⟨(h k hk).1, (h k hk).2.1⟩
    · rw [List.pairwise_iff_getElem]
      intro i j hi hj hij
      have : ∀ d i (hi : i < rows.length) (hj : i + 1 + d < rows.length), rows[i].1 < rows[i + 1 + d].1 := by
        intro d
        induction d with
        | zero => intro i hi hj; have := (h (i+1) hj).2.2 (by omega); simpa using this
        | succ d ih =>
          intro i hi hj
          have a := ih i hi (by omega)
          have c := (h (i + 1 + d + 1) (by omega)).2.2 (by omega)
          simp only [Nat.add_sub_cancel] at c
          have : rows[i + 1 + (d + 1)] = rows[i + 1 + d + 1] := rfl
          rw [this]; omega
      have := this (j - i - 1) i hi (by omega)
      have e : i + 1 + (j - i - 1) = j := by omega
      simpa [e] using this
  · rintro ⟨h1, h2⟩ k hk
    have := h1 _ (List.getElem_mem hk)
    exact ⟨this.1, this.2, fun h => (List.pairwise_iff_getElem.1 h2) (k-1) k (by omega) hk (by omega)⟩
theorem fine_iff {l : List Run} : fine l = true ↔ Sep l ∧ (∀ r ∈ l, -4096 ≤ r.1 ∧ r.2 ≤ 4096) ∧ l ≠ [] := by
  unfold fine
  simp only [Bool.and_eq_true, List.all_eq_true, Bool.not_eq_true', List.isEmpty_eq_false_iff]
  constructor
  · rintro ⟨⟨h1, h2⟩, h3⟩
    exact ⟨(valid_iff.1 h1).1, fun r hr => by have := h2 r hr; simpa [inC] using this, h3⟩
  · rintro ⟨h1, h2, h3⟩
    refine ⟨⟨valid_iff.2 ⟨h1, fun r hr => ?_⟩, fun r hr => by simpa [inC] using h2 r hr⟩, h3⟩
    have := h2 r hr
    have := h1.1 r hr
    simp [fits]; omega
/-- between the first and the last run -/
theorem sep_ends2 {l : List Run} (h : Sep l) {n : Nat} {r q x : Run} (hl : l.length = n + 1) (hr : l[0]? = some r) (hq : l[n]? = some q) (hx : x ∈ l) : r.1 ≤ x.1 ∧ x.2 ≤ q.2 ∧ x.1 < x.2 := by
  obtain ⟨i, hi, rfl⟩ := List.getElem_of_mem hx
  have hp := List.pairwise_iff_getElem.1 h.2
  have h1 := h.1 _ (List.getElem_mem hi)
  rw [List.getElem?_eq_getElem (by omega)] at hr hq
  injection hr with hr
  injection hq with hq
  subst hr hq
  have h2 := h.1 l[0] (List.getElem_mem _)
  have h3 := h.1 l[n] (List.getElem_mem _)
  refine ⟨?_, ?_, h1⟩
  · rcases Nat.eq_zero_or_pos i with h0 | h0
    · subst h0; exact Int.le_refl _
    · have := hp 0 i (by omega) hi h0; omega
  · rcases Nat.lt_or_ge i n with h0 | h0
    · have := hp i n hi (by omega) h0; omega
    · have : i = n := by omega
      subst this; exact Int.le_refl _
/-- fine, as the program asks it: by the first and the last run -/
theorem fine_ends {l : List Run} (hv : valid l = true) {n : Nat} {r q : Run} (hl : l.length = n + 1) (hr : l[0]? = some r) (hq : l[n]? = some q) : fine l = (okC r.1 && okC (q.2 - 1)) := by
  rw [Bool.eq_iff_iff, fine_iff]
  simp only [okC, Bool.and_eq_true, decide_eq_true_eq]
  have hs := (valid_iff.1 hv).1
  have hrm := List.mem_of_getElem? hr
  have hqm := List.mem_of_getElem? hq
  have h1 := hs.1 r hrm
  have h2 := hs.1 q hqm
  have h3 := sep_ends2 hs hl hr hq hrm
  constructor
  · rintro ⟨_, h, _⟩
    have := h r hrm
    have := h q hqm
    omega
  · rintro ⟨h5, h6⟩
    refine ⟨hs, fun x hx => ?_, fun h => by rw [h] at hl; simp at hl⟩
    have := sep_ends2 hs hl hr hq hx
    omega
theorem memC_iff {rows : List Row} {x y : Int} : memC rows x y = true ↔ ∃ w ∈ rows, w.1 = y ∧ mem w.2 x = true := by
  simp [memC, List.any_eq_true]
theorem memC_nil (x y : Int) : memC [] x y = false := rfl
theorem memC_cons (w : Row) (rows : List Row) (x y : Int) : memC (w :: rows) x y = ((w.1 == y && mem w.2 x) || memC rows x y) := rfl
theorem fine_some {l : List Run} (h : fine l = true) : ∃ x, mem l x = true := by
  obtain ⟨hs, _, hne⟩ := fine_iff.1 h
  match l, hne with
  | r :: l, _ => exact ⟨r.1, mem_iff.2 ⟨r, by simp, Int.le_refl _, hs.1 r (by simp)⟩⟩
theorem vreg_cons {w : Row} {rows : List Row} : VReg (w :: rows) ↔ okC w.1 = true ∧ fine w.2 = true ∧ (∀ v ∈ rows, w.1 < v.1) ∧ VReg rows := by
  simp only [VReg, List.mem_cons, List.pairwise_cons]
  constructor
  · rintro ⟨h1, h2, h3⟩; exact ⟨(h1 w (.inl rfl)).1, (h1 w (.inl rfl)).2, h2, fun v hv => h1 v (.inr hv), h3⟩
  · rintro ⟨h1, h2, h3, h4, h5⟩; exact ⟨fun v hv => by rcases hv with rfl | hv; exact ⟨h1, h2⟩; exact h4 v hv, h3, h5⟩
/-- a valid region is given by its cells -/
theorem vreg_ext : ∀ {a b : List Row}, VReg a → VReg b → (∀ x y, memC a x y = memC b x y) → a = b
  | [], [], _, _, _ => rfl
  | [], w :: b, _, hb, h => by
    obtain ⟨_, hf, _, _⟩ := vreg_cons.1 hb
    obtain ⟨x, hx⟩ := fine_some hf
    have := h x w.1
    rw [memC_nil, memC_cons] at this
    simp [hx] at this
  | w :: a, [], ha, _, h => by
    obtain ⟨_, hf, _, _⟩ := vreg_cons.1 ha
    obtain ⟨x, hx⟩ := fine_some hf
    have := h x w.1
    rw [memC_nil, memC_cons] at this
    simp [hx] at this
  | v :: a, w :: b, ha, hb, h => by
    obtain ⟨_, hfv, hva, ha'⟩ := vreg_cons.1 ha
    obtain ⟨_, hfw, hwb, hb'⟩ := vreg_cons.1 hb
    have low : ∀ {v : Row} {a : List Row}, (∀ u ∈ a, v.1 < u.1) → ∀ x y, memC (v :: a) x y = true → v.1 ≤ y := fun {v a} hv x y hm => by
      obtain ⟨u, hu, e, _⟩ := memC_iff.1 hm
      rcases List.mem_cons.1 hu with rfl | hu
      · omega
      · have := hv u hu; omega
    have e1 : v.1 = w.1 := by
      obtain ⟨x, hx⟩ := fine_some hfv
      obtain ⟨x', hx'⟩ := fine_some hfw
      have h1 := low hwb x v.1 (by rw [← h]; exact memC_iff.2 ⟨v, by simp, rfl, hx⟩)
      have h2 := low hva x' w.1 (by rw [h]; exact memC_iff.2 ⟨w, by simp, rfl, hx'⟩)
      omega
    have off : ∀ {v : Row} {a : List Row}, (∀ u ∈ a, v.1 < u.1) → ∀ x, memC (v :: a) x v.1 = mem v.2 x := fun {v a} hv x => by
      rw [memC_cons]
      have : memC a x v.1 = false := by
        rw [Bool.eq_false_iff]; intro hm
        obtain ⟨u, hu, e, _⟩ := memC_iff.1 hm
        have := hv u hu; omega
      simp [this]
    have e2 : v.2 = w.2 := sep_ext (fine_iff.1 hfv).1 (fine_iff.1 hfw).1 fun x => by
      rw [← off hva x, ← off hwb x, h x v.1, e1]
    have e : v = w := Prod.ext e1 e2
    subst e
    have : a = b := vreg_ext ha' hb' fun x y => by
      have hxy := h x y
      rw [memC_cons, memC_cons] at hxy
      by_cases hy : v.1 = y
      · have z : ∀ {c : List Row}, (∀ u ∈ c, v.1 < u.1) → memC c x y = false := fun {c} hc => by
          rw [Bool.eq_false_iff]; intro hm
          obtain ⟨u, hu, e, _⟩ := memC_iff.1 hm
          have := hc u hu; omega
        rw [z hva, z hwb]
      · have : (v.1 == y) = false := by simp [hy]
        simpa [this] using hxy
    rw [this]
end Reg
end Go.Proofs.Ytfoedkdmckhihaa

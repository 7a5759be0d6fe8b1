/- Set operations on regions; with no program in sight. -/
import Derived.Test.YtfoedkdmckhihaaRegMath
namespace Go.Proofs.Ytfoedkdmckhihaa
set_option linter.unusedSimpArgs false
set_option linter.unusedVariables false
namespace Reg
open Runs
/-- the runs of a row, none if there is no such row -/
def rwAt (rows : List Row) (y : Int) : List Run := ((rows.find? (fun w => w.1 == y)).map (·.2)).getD []
theorem rwAt_nil (y : Int) : rwAt [] y = [] := rfl
theorem rwAt_cons (w : Row) (rows : List Row) (y : Int) : rwAt (w :: rows) y = if w.1 = y then w.2 else rwAt rows y := by
  unfold rwAt
  by_cases h : w.1 = y <;> simp [List.find?_cons, h]
theorem rwAt_cases (rows : List Row) (y : Int) : (∃ w ∈ rows, w.1 = y ∧ rwAt rows y = w.2) ∨ ((∀ w ∈ rows, w.1 ≠ y) ∧ rwAt rows y = []) := by
  induction rows with
  | nil => right; exact ⟨by simp, rfl⟩
  | cons w rows ih =>
    rw [rwAt_cons]
    by_cases h : w.1 = y
    · left; exact ⟨w, by simp, h, by simp [h]⟩
    · rcases ih with ⟨v, hv, h1, h2⟩ | ⟨h1, h2⟩
      · left; exact ⟨v, by simp [hv], h1, by simp [h, h2]⟩
      · right; exact ⟨fun v hv => by rcases List.mem_cons.1 hv with rfl | hv; exact h; exact h1 v hv, by simp [h, h2]⟩
theorem memC_rwAt {rows : List Row} (h : VReg rows) (x y : Int) : memC rows x y = mem (rwAt rows y) x := by
  induction rows with
  | nil => rfl
  | cons w rows ih =>
    obtain ⟨_, _, hlt, h'⟩ := vreg_cons.1 h
    rw [memC_cons, rwAt_cons]
    by_cases hy : w.1 = y
    · have : memC rows x y = false := by
        rw [Bool.eq_false_iff]; intro hm
        obtain ⟨u, hu, e, _⟩ := memC_iff.1 hm
        have := hlt u hu; omega
      simp [hy, this]
    · simp [hy, ih h']
/-- runs that are apart and in range -/
def SepIn (l : List Run) : Prop := Sep l ∧ ∀ r ∈ l, -4096 ≤ r.1 ∧ r.2 ≤ 4096
theorem sepIn_nil : SepIn [] := ⟨sep_nil, by simp⟩
theorem fine_sepIn {l : List Run} : fine l = true ↔ SepIn l ∧ l ≠ [] := by rw [fine_iff, SepIn, and_assoc]
theorem rwAt_in {rows : List Row} (h : VReg rows) (y : Int) : SepIn (rwAt rows y) := by
  rcases rwAt_cases rows y with ⟨w, hw, _, e⟩ | ⟨_, e⟩
  · rw [e]; exact (fine_sepIn.1 (h.1 w hw).2).1
  · rw [e]; exact sepIn_nil
theorem sepIn_valid {l : List Run} (h : SepIn l) : valid l = true := valid_iff.2 ⟨h.1, fun r hr => by
  have := h.2 r hr
  have := h.1.1 r hr
  simp [fits]; omega⟩
theorem sepIn_mem {l : List Run} (h : SepIn l) {x : Int} (hx : mem l x = true) : -4096 ≤ x ∧ x < 4096 := by
  obtain ⟨r, hr, _, _⟩ := mem_iff.1 hx
  have := h.2 r hr
  omega
theorem sepIn_of_mem {l : List Run} (h : Sep l) (hm : ∀ x, mem l x = true → -4096 ≤ x ∧ x < 4096) : SepIn l := ⟨h, fun r hr => by
  have h1 := hm _ (sep_ends h hr).1
  have h2 := hm _ (sep_ends h hr).2
  omega⟩
/-- the rows y of ys with the runs g y, where there are any -/
def rowsOn (g : Int → List Run) (ys : List Int) : List Row := ys.filterMap fun y => if (g y).isEmpty then none else some (y, g y)
theorem rowsOn_nil (g : Int → List Run) : rowsOn g [] = [] := rfl
theorem rowsOn_snoc (g : Int → List Run) (ys : List Int) (y : Int) : rowsOn g (ys ++ [y]) = rowsOn g ys ++ (if (g y).isEmpty then [] else [(y, g y)]) := by
  unfold rowsOn
  rw [List.filterMap_append]
  congr 1
  by_cases h : g y = [] <;> simp [h]
theorem rowsOn_mem {g : Int → List Run} {ys : List Int} {w : Row} : w ∈ rowsOn g ys ↔ w.1 ∈ ys ∧ w.2 = g w.1 ∧ w.2 ≠ [] := by
  unfold rowsOn
  simp only [List.mem_filterMap]
  constructor
  · rintro ⟨y, hy, h⟩
    by_cases he : (g y).isEmpty
    · simp [he] at h
    · simp only [he] at h
      simp at h
      subst h
      exact ⟨hy, rfl, by simpa using he⟩
  · rintro ⟨h1, h2, h3⟩
    refine ⟨w.1, h1, ?_⟩
    rw [← h2]
    simp [h3]
theorem rowsOn_len (g : Int → List Run) (ys : List Int) : (rowsOn g ys).length ≤ ys.length := List.length_filterMap_le _ _
theorem rowsOn_vreg {g : Int → List Run} {ys : List Int} (hy : Asc ys) (hok : ∀ y ∈ ys, okC y = true) (hg : ∀ y ∈ ys, SepIn (g y)) : VReg (rowsOn g ys) := by
  refine ⟨fun w hw => ?_, ?_⟩
  · obtain ⟨h1, h2, h3⟩ := rowsOn_mem.1 hw
    exact ⟨hok _ h1, fine_sepIn.2 ⟨by rw [h2]; exact hg _ h1, h3⟩⟩
  · unfold rowsOn
    rw [List.pairwise_filterMap]
    refine hy.imp fun {a b} hab v hv w hw => ?_
    split at hv
    · cases hv
    split at hw
    · cases hw
    injection hv with hv
    injection hw with hw
    subst hv hw
    exact hab
theorem rowsOn_memC {g : Int → List Run} {ys : List Int} (x y : Int) : memC (rowsOn g ys) x y = (decide (y ∈ ys) && mem (g y) x) := by
  rw [Bool.eq_iff_iff, memC_iff]
  simp only [Bool.and_eq_true, decide_eq_true_eq]
  constructor
  · rintro ⟨w, hw, rfl, h⟩
    obtain ⟨h1, h2, _⟩ := rowsOn_mem.1 hw
    exact ⟨h1, by rw [← h2]; exact h⟩
  · rintro ⟨h1, h2⟩
    refine ⟨(y, g y), rowsOn_mem.2 ⟨h1, rfl, fun e => ?_⟩, rfl, h2⟩
    simp only at e
    rw [e] at h2; cases h2
/-- the numbers of a list, ascending, each once -/
def ysOf (l : List Int) : List Int := l.foldl ins []
theorem ysOf_spec (l : List Int) : Asc (ysOf l) ∧ ∀ y, y ∈ ysOf l ↔ y ∈ l := by
  have : ∀ (l b : List Int), Asc b → Asc (l.foldl ins b) ∧ ∀ y, y ∈ l.foldl ins b ↔ y ∈ b ∨ y ∈ l := by
    intro l
    induction l with
    | nil => intro b hb; exact ⟨hb, by simp⟩
    | cons x l ih =>
      intro b hb
      obtain ⟨h1, h2⟩ := ih (ins b x) (ins_asc hb)
      refine ⟨h1, fun y => ?_⟩
      rw [List.foldl_cons, h2, ins_mem]
      simp only [List.mem_cons]
      constructor
      · rintro ((h | h) | h)
        · exact .inr (.inl h)
        · exact .inl h
        · exact .inr (.inr h)
      · rintro (h | (h | h))
        · exact .inl (.inr h)
        · exact .inl (.inl h)
        · exact .inr h
  obtain ⟨h1, h2⟩ := this l [] List.Pairwise.nil
  exact ⟨h1, fun y => by rw [ysOf, h2]; simp⟩
/-- an operation on two regions -/
def rop (f : Bool → Bool → Bool) (a b : List Row) : List Row := if rvalid a && rvalid b then rowsOn (fun y => Runs.choose f (rwAt a y) (rwAt b y)) (ysOf (a.map (·.1) ++ b.map (·.1))) else []
theorem rop_bad {f : Bool → Bool → Bool} {a b : List Row} (h : (rvalid a && rvalid b) = false) : rop f a b = [] := by unfold rop; rw [h]; rfl
theorem choose_in {f : Bool → Bool → Bool} (hf : f false false = false) {a b : List Run} (ha : SepIn a) (hb : SepIn b) : SepIn (Runs.choose f a b) := by
  obtain ⟨h1, h2⟩ := choose_spec hf a b
  refine sepIn_of_mem h1 fun x hx => ?_
  rw [h2] at hx
  cases h3 : mem a x
  · cases h4 : mem b x
    · rw [h3, h4, hf] at hx; cases hx
    · exact sepIn_mem hb h4
  · exact sepIn_mem ha h3
theorem memC_y {rows : List Row} {x y : Int} (h : memC rows x y = true) : y ∈ rows.map (·.1) := by
  obtain ⟨w, hw, e, _⟩ := memC_iff.1 h
  exact List.mem_map.2 ⟨w, hw, e⟩
/-- rows built with the operation, for any list of the rows that there are -/
theorem rows_op {f : Bool → Bool → Bool} (hf : f false false = false) {a b : List Row} (ha : VReg a) (hb : VReg b) {ys : List Int} (h1 : Asc ys) (h2 : ∀ y, y ∈ ys ↔ y ∈ a.map (·.1) ++ b.map (·.1)) :
    VReg (rowsOn (fun y => Runs.choose f (rwAt a y) (rwAt b y)) ys) ∧ ∀ x y, memC (rowsOn (fun y => Runs.choose f (rwAt a y) (rwAt b y)) ys) x y = f (memC a x y) (memC b x y) := by
  refine ⟨rowsOn_vreg h1 (fun y hy => ?_) (fun y hy => choose_in hf (rwAt_in ha y) (rwAt_in hb y)), fun x y => ?_⟩
  · rcases List.mem_append.1 ((h2 y).1 hy) with h | h
    · obtain ⟨w, hw, rfl⟩ := List.mem_map.1 h; exact (ha.1 w hw).1
    · obtain ⟨w, hw, rfl⟩ := List.mem_map.1 h; exact (hb.1 w hw).1
  · rw [rowsOn_memC, (choose_spec hf _ _).2, ← memC_rwAt ha, ← memC_rwAt hb]
    by_cases hy : y ∈ ys
    · simp [hy]
    · have h3 : memC a x y = false := by
        rw [Bool.eq_false_iff]; intro h; exact hy ((h2 y).2 (List.mem_append_left _ (memC_y h)))
      have h4 : memC b x y = false := by
        rw [Bool.eq_false_iff]; intro h; exact hy ((h2 y).2 (List.mem_append_right _ (memC_y h)))
      simp [hy, h3, h4, hf]
theorem rop_spec {f : Bool → Bool → Bool} (hf : f false false = false) {a b : List Row} (ha : rvalid a = true) (hb : rvalid b = true) :
    VReg (rop f a b) ∧ ∀ x y, memC (rop f a b) x y = f (memC a x y) (memC b x y) := by
  unfold rop
  rw [ha, hb]
  simp only [Bool.and_self, if_true]
  exact rows_op hf (rvalid_iff.1 ha) (rvalid_iff.1 hb) (ysOf_spec _).1 (ysOf_spec _).2
theorem rop_eq {f : Bool → Bool → Bool} (hf : f false false = false) {a b : List Row} (ha : rvalid a = true) (hb : rvalid b = true) {r : List Row} (h1 : VReg r) (h2 : ∀ x y, memC r x y = f (memC a x y) (memC b x y)) : r = rop f a b :=
  vreg_ext h1 (rop_spec hf ha hb).1 fun x y => by rw [h2, (rop_spec hf ha hb).2]
theorem vreg_nil : VReg [] := ⟨by simp, List.Pairwise.nil⟩
theorem rvalid_nil : rvalid [] = true := rvalid_iff.2 vreg_nil
theorem rop_valid {f : Bool → Bool → Bool} (hf : f false false = false) (a b : List Row) : rvalid (rop f a b) = true := by
  cases h : (rvalid a && rvalid b)
  · rw [rop_bad h]; exact rvalid_nil
  · simp only [Bool.and_eq_true] at h
    exact rvalid_iff.2 (rop_spec hf h.1 h.2).1
/-- how long runs in range can be -/
theorem sepIn_len {l : List Run} (h : SepIn l) : l.length ≤ 8192 := by
  have : ∀ (l : List Run) (lo : Int), SepIn l → lo ≤ 4096 → (∀ r ∈ l, lo ≤ r.1) → (l.length : Int) ≤ 4096 - lo := by
    intro l
    induction l with
    | nil => intro lo _ h _; simp; omega
    | cons r l ih =>
      intro lo h h0 hlo
      obtain ⟨h1, h2, h3⟩ := sep_cons.1 h.1
      have h4 := h.2 r (by simp)
      have h5 := hlo r (by simp)
      have := ih r.2 ⟨h3, fun q hq => h.2 q (by simp [hq])⟩ (by omega) (fun q hq => by have := h2 q hq; omega)
      simp only [List.length_cons]
      omega
  have := this l (-4096) h (by omega) (fun r hr => (h.2 r hr).1)
  omega
theorem asc_len {l : List Int} (h : Asc l) (hok : ∀ y ∈ l, okC y = true) : l.length ≤ 8192 := by
  have : ∀ (l : List Int) (lo : Int), Asc l → lo ≤ 4096 → (∀ y ∈ l, lo ≤ y ∧ y < 4096) → (l.length : Int) ≤ 4096 - lo := by
    intro l
    induction l with
    | nil => intro lo _ h _; simp; omega
    | cons y l ih =>
      intro lo h h0 hlo
      obtain ⟨h1, h2⟩ := List.pairwise_cons.1 h
      have h5 := hlo y (by simp)
      have := ih (y + 1) h2 (by omega) (fun z hz => ⟨by have := h1 z hz; omega, (hlo z (by simp [hz])).2⟩)
      simp only [List.length_cons]
      omega
  have := this l (-4096) h (by omega) (fun y hy => by have := hok y hy; simpa [okC] using this)
  omega
theorem vreg_len {rows : List Row} (h : VReg rows) : rows.length ≤ 8192 ∧ ∀ w ∈ rows, w.2.length ≤ 8192 := by
  refine ⟨?_, fun w hw => sepIn_len (fine_sepIn.1 (h.1 w hw).2).1⟩
  have := asc_len (l := rows.map (·.1)) (by unfold Asc; rw [List.pairwise_map]; exact h.2) (fun y hy => by
    obtain ⟨w, hw, rfl⟩ := List.mem_map.1 hy; exact (h.1 w hw).1)
  simpa using this
end Reg
end Go.Proofs.Ytfoedkdmckhihaa

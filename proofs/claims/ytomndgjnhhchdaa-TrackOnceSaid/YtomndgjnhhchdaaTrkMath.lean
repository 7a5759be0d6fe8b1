/- Tracks: plain laws. -/
import Derived.Test.YtomndgjnhhchdaaBase
namespace Go.Proofs.Ytomndgjnhhchdaa
set_option linter.unusedSimpArgs false
set_option linter.unusedVariables false
namespace Trk
abbrev Cl := Int × Int
/-- a track: its role, whether it is closed, its cells -/
abbrev Tr := (Int × Bool) × List Cl
def okc (c : Cl) : Bool := decide (-4096 ≤ c.1 ∧ c.1 < 4096) && decide (-4096 ≤ c.2 ∧ c.2 < 4096)
theorem okc_iff {c : Cl} : okc c = true ↔ (-4096 ≤ c.1 ∧ c.1 < 4096) ∧ (-4096 ≤ c.2 ∧ c.2 < 4096) := by simp [okc]
def nb (a b : Cl) : Bool := decide ((a.1 - b.1) * (a.1 - b.1) + (a.2 - b.2) * (a.2 - b.2) = 1)
def nbA (a b : Cl) : Bool := decide (max (a.1 - b.1) (-(a.1 - b.1)) + max (a.2 - b.2) (-(a.2 - b.2)) = 1)
theorem sq_abs {x y : Int} : x * x + y * y = 1 ↔ max x (-x) + max y (-y) = 1 := by
  have key : ∀ z : Int, 0 ≤ max z (-z) ∧ z * z = max z (-z) * max z (-z) := fun z => by
    rcases Int.le_total 0 z with h | h
    · rw [Int.max_eq_left (by omega)]; exact ⟨h, rfl⟩
    · rw [Int.max_eq_right (by omega)]; exact ⟨by omega, by rw [Int.neg_mul_neg]⟩
  obtain ⟨h1, e1⟩ := key x
  obtain ⟨h2, e2⟩ := key y
  rw [e1, e2]
  generalize max x (-x) = p at *
  generalize max y (-y) = q at *
  have sq : ∀ z : Int, 0 ≤ z → ∃ Z, z * z = Z ∧ ((z = 0 ∧ Z = 0) ∨ (z = 1 ∧ Z = 1) ∨ (2 ≤ z ∧ 2 * z ≤ Z)) := fun z hz => by
    refine ⟨z * z, rfl, ?_⟩
    rcases Int.lt_or_le z 2 with h | h
    · have : z = 0 ∨ z = 1 := by omega
      rcases this with rfl | rfl
      · exact .inl ⟨rfl, rfl⟩
      · exact .inr (.inl ⟨rfl, rfl⟩)
    · right; right; exact ⟨h, Int.mul_le_mul_of_nonneg_right h hz⟩
  obtain ⟨P, eP, hP⟩ := sq p h1
  obtain ⟨Q, eQ, hQ⟩ := sq q h2
  rw [eP, eQ]
  omega
theorem nb_abs (a b : Cl) : nbA a b = nb a b := by unfold nbA nb; exact decide_eq_decide.2 sq_abs.symm
theorem nb_comm (a b : Cl) : nb a b = nb b a := by
  unfold nb
  have e1 : (a.1 - b.1) * (a.1 - b.1) = (b.1 - a.1) * (b.1 - a.1) := by grind
  have e2 : (a.2 - b.2) * (a.2 - b.2) = (b.2 - a.2) * (b.2 - a.2) := by grind
  rw [e1, e2]
/-- cells on the grid, each a neighbor of the one before it -/
def stepOk : List Cl → Bool
  | [] => true
  | c :: r => okc c && (match r with | [] => true | d :: _ => nb c d) && stepOk r
def endsOk (l : List Cl) : Bool := match l.getLast?, l.head? with | some a, some b => nb a b | _, _ => false
def tval (t : Tr) : Bool := decide (1 ≤ t.1.1 ∧ t.1.1 ≤ 7 ∧ 1 ≤ t.2.length ∧ t.2.length ≤ 65536) && stepOk t.2 && (!t.1.2 || decide (t.2.length = 1) || endsOk t.2)
theorem stepOk_iff : ∀ {l : List Cl}, stepOk l = true ↔ ∀ i c, l[i]? = some c → okc c = true ∧ ∀ d, l[i + 1]? = some d → nb c d = true
  | [] => by simp [stepOk]
  | [c] => by
    simp only [stepOk, Bool.and_true]
    constructor
    · intro h i x hx
      match i, hx with
      | 0, hx => simp at hx; subst hx; exact ⟨h, fun d hd => by simp at hd⟩
      | i + 1, hx => simp at hx
    · intro h; exact (h 0 c rfl).1
  | c :: e :: r => by
    have ih := stepOk_iff (l := e :: r)
    unfold stepOk
    rw [Bool.and_eq_true, Bool.and_eq_true, ih]
    constructor
    · rintro ⟨⟨h1, h2⟩, h3⟩ i x hx
      match i, hx with
      | 0, hx =>
        simp at hx; subst hx
        exact ⟨h1, fun d hd => by simp at hd; subst hd; exact h2⟩
      | i + 1, hx => exact h3 i x (by simpa using hx)
    · intro h
      exact ⟨⟨(h 0 c rfl).1, (h 0 c rfl).2 e rfl⟩, fun i x hx => h (i + 1) x (by simpa using hx)⟩
/-- the loop's knowledge: the first k cells are fine -/
def okTo (l : List Cl) (k : Nat) : Prop := ∀ i < k, ∀ c, l[i]? = some c → okc c = true ∧ ∀ d, 0 < i → l[i - 1]? = some d → nb d c = true
theorem okTo_succ {l : List Cl} {k : Nat} {c : Cl} (h : okTo l k) (hc : l[k]? = some c) (h1 : okc c = true) (h2 : ∀ d, 0 < k → l[k - 1]? = some d → nb d c = true) : okTo l (k + 1) := by
  intro i hi x hx
  by_cases e : i = k
  · subst e; rw [hc] at hx; injection hx with hx; subst hx; exact ⟨h1, h2⟩
  · exact h i (by omega) x hx
theorem okTo_all {l : List Cl} : okTo l l.length ↔ stepOk l = true := by
  rw [stepOk_iff]
  constructor
  · intro h i c hc
    have hi := (List.getElem?_eq_some_iff.1 hc).1
    refine ⟨(h i hi c hc).1, fun d hd => ?_⟩
    have hi2 := (List.getElem?_eq_some_iff.1 hd).1
    exact (h (i + 1) hi2 d hd).2 c (by omega) (by simpa using hc)
  · intro h i hi c hc
    refine ⟨(h i c hc).1, fun d h0 hd => ?_⟩
    exact (h (i - 1) d hd).2 c (by rw [show i - 1 + 1 = i by omega]; exact hc)
theorem stepOk_bad1 {l : List Cl} {i : Nat} {c : Cl} (hc : l[i]? = some c) (h : okc c = false) : stepOk l = false := by
  cases hs : stepOk l
  · rfl
  · rw [(stepOk_iff.1 hs i c hc).1] at h; cases h
theorem stepOk_bad2 {l : List Cl} {i : Nat} {c d : Cl} (hc : l[i]? = some c) (h0 : 0 < i) (hd : l[i - 1]? = some d) (h : nb d c = false) : stepOk l = false := by
  cases hs : stepOk l
  · rfl
  · rw [(stepOk_iff.1 hs (i - 1) d hd).2 c (by rw [show i - 1 + 1 = i by omega]; exact hc)] at h; cases h
theorem stepOk_ok {l : List Cl} (h : stepOk l = true) {i : Nat} {c : Cl} (hc : l[i]? = some c) : okc c = true := (stepOk_iff.1 h i c hc).1
theorem tval_false1 {r : Int} {cl : Bool} {l : List Cl} (h : ¬ (1 ≤ r ∧ r ≤ 7 ∧ 1 ≤ l.length ∧ l.length ≤ 65536)) : tval ((r, cl), l) = false := by
  unfold tval
  rw [decide_eq_false (by exact h)]; rfl
theorem tval_false2 {r : Int} {cl : Bool} {l : List Cl} (h : stepOk l = false) : tval ((r, cl), l) = false := by unfold tval; simp [h]
theorem tval_end {r : Int} {cl : Bool} {l : List Cl} (h : 1 ≤ r ∧ r ≤ 7 ∧ 1 ≤ l.length ∧ l.length ≤ 65536) (hs : stepOk l = true) : tval ((r, cl), l) = (!cl || decide (l.length = 1) || endsOk l) := by
  unfold tval
  rw [decide_eq_true (by exact h)]; simp [hs]
theorem endsOk_of {l : List Cl} {a b : Cl} (ha : l[l.length - 1]? = some a) (hb : l[0]? = some b) : endsOk l = nb a b := by
  unfold endsOk
  rw [List.getLast?_eq_getElem?, ha, List.head?_eq_getElem?, hb]
theorem tval_len {t : Tr} (h : tval t = true) : (1 ≤ t.1.1 ∧ t.1.1 ≤ 7) ∧ 1 ≤ t.2.length ∧ t.2.length ≤ 65536 := by
  unfold tval at h
  simp only [Bool.and_eq_true, decide_eq_true_eq] at h
  exact ⟨⟨h.1.1.1, h.1.1.2.1⟩, h.1.1.2.2⟩
theorem tval_step {t : Tr} (h : tval t = true) : stepOk t.2 = true := by
  unfold tval at h
  simp only [Bool.and_eq_true] at h
  exact h.1.2
theorem tval_ok {t : Tr} (h : tval t = true) {c : Cl} (hc : c ∈ t.2) : okc c = true := by
  obtain ⟨i, hi⟩ := List.getElem?_of_mem hc
  exact stepOk_ok (tval_step h) hi
/-- steps of a track -/
def stepsT (t : Tr) : Int := if tval t then (if t.1.2 && decide (1 < t.2.length) then (t.2.length : Int) else (t.2.length : Int) - 1) else 0
def revT (t : Tr) : Tr := if tval t then (t.1, t.2.reverse) else ((0, false), [])
def rotL (l : List Cl) (k : Nat) : List Cl := l.drop k ++ l.take k
def turnK (t : Tr) (i : Int) : Nat := if t.1.2 then ((i.tmod t.2.length + t.2.length).tmod t.2.length).toNat else 0
def turnT (t : Tr) (i : Int) : Tr := if tval t then (t.1, rotL t.2 (turnK t i)) else ((0, false), [])
/-- is the cell at i an end, or a corner? -/
def keepAt (l : List Cl) (i : Nat) : Bool :=
  match l[i - 1]?, l[i]?, l[i + 1]? with
  | some a, some c, some b => decide (i = 0) || !(decide (c.1 - a.1 = b.1 - c.1) && decide (c.2 - a.2 = b.2 - c.2))
  | _, _, _ => true
def cornTo (l : List Cl) : Nat → List Cl
  | 0 => []
  | k + 1 => cornTo l k ++ (match l[k]? with | some c => if keepAt l k then [c] else [] | none => [])
def cornT (t : Tr) : List Cl := if tval t then cornTo t.2 t.2.length else []
theorem cornTo_succ {l : List Cl} {k : Nat} {c : Cl} (h : l[k]? = some c) : cornTo l (k + 1) = cornTo l k ++ (if keepAt l k then [c] else []) := by
  simp only [cornTo, h]
theorem cornTo_len (l : List Cl) : ∀ k, (cornTo l k).length ≤ k
  | 0 => by simp [cornTo]
  | k + 1 => by
    have := cornTo_len l k
    unfold cornTo
    rw [List.length_append]
    split <;> (try split) <;> simp <;> omega
end Trk
end Go.Proofs.Ytomndgjnhhchdaa

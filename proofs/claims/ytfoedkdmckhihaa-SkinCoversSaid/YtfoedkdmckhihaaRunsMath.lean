/- Plain facts on lists of runs: sets of integers, with no program in sight. -/
import Derived.Test.YtfoedkdmckhihaaKit
namespace Go.Proofs.Ytfoedkdmckhihaa
set_option linter.unusedSimpArgs false
set_option linter.unusedVariables false
namespace Runs
abbrev Run := Int × Int
def fits (r : Run) : Bool := decide (-1048576 ≤ r.1 ∧ r.1 ≤ 1048576 ∧ -1048576 ≤ r.2 ∧ r.2 ≤ 1048576)
/-- the k-th step of Valid -/
def vstep (l : List Run) (k : Nat) : Bool := match l[k]? with
  | none => true
  | some r => decide (r.1 < r.2) && fits r && (k == 0 || (match l[k - 1]? with | none => true | some q => decide (q.2 < r.1)))
def validTo (l : List Run) (k : Nat) : Bool := (List.range k).all (vstep l)
def valid (l : List Run) : Bool := validTo l l.length
def inR (r : Run) (x : Int) : Bool := decide (r.1 ≤ x) && decide (x < r.2)
def mem (l : List Run) (x : Int) : Bool := l.any (inR · x)
/-- runs that are not empty, ascending and apart -/
def Sep (l : List Run) : Prop := (∀ r ∈ l, r.1 < r.2) ∧ l.Pairwise (fun q r => q.2 < r.1)
def Fit (l : List Run) : Prop := ∀ r ∈ l, fits r = true

theorem mem_iff {l : List Run} {x : Int} : mem l x = true ↔ ∃ r ∈ l, r.1 ≤ x ∧ x < r.2 := by
  simp [mem, inR]
theorem mem_nil (x : Int) : mem [] x = false := rfl
theorem mem_cons (r : Run) (l : List Run) (x : Int) : mem (r :: l) x = (inR r x || mem l x) := rfl
theorem mem_append (l m : List Run) (x : Int) : mem (l ++ m) x = (mem l x || mem m x) := by simp [mem]
theorem sep_cons {r : Run} {l : List Run} : Sep (r :: l) ↔ r.1 < r.2 ∧ (∀ q ∈ l, r.2 < q.1) ∧ Sep l := by
  simp only [Sep, List.mem_cons, List.pairwise_cons]
  constructor
  · rintro ⟨h1, h2, h3⟩; exact ⟨h1 r (.inl rfl), h2, fun q hq => h1 q (.inr hq), h3⟩
  · rintro ⟨h1, h2, h3, h4⟩; exact ⟨fun q hq => by rcases hq with rfl | hq; exact h1; exact h3 q hq, h2, h4⟩
theorem sep_nil : Sep [] := ⟨by simp, List.Pairwise.nil⟩
theorem not_mem_of_lt {l : List Run} {x : Int} (h : ∀ q ∈ l, x < q.1) : mem l x = false := by
  rw [Bool.eq_false_iff]; intro hm
  obtain ⟨r, hr, h1, h2⟩ := mem_iff.1 hm
  have := h r hr; omega
/-- a list of a set is given by its members -/
theorem sep_ext : ∀ {l m : List Run}, Sep l → Sep m → (∀ x, mem l x = mem m x) → l = m
  | [], [], _, _, _ => rfl
  | [], b :: m, _, hm, h => by
    have := h b.1
    rw [mem_nil, mem_cons] at this
    have hb := (sep_cons.1 hm).1
    simp [inR, hb] at this
  | a :: l, [], hl, _, h => by
    have := h a.1
    rw [mem_nil, mem_cons] at this
    have hb := (sep_cons.1 hl).1
    simp [inR, hb] at this
  | a :: l, b :: m, hl, hm, h => by
    obtain ⟨ha, hal, hl'⟩ := sep_cons.1 hl
    obtain ⟨hb, hbm, hm'⟩ := sep_cons.1 hm
    have low : ∀ {r : Run} {l : List Run}, r.1 < r.2 → (∀ q ∈ l, r.2 < q.1) → ∀ x, mem (r :: l) x = true → r.1 ≤ x := by
      intro r l hr hrl x hx
      obtain ⟨q, hq, h1, _⟩ := mem_iff.1 hx
      rcases List.mem_cons.1 hq with rfl | hq
      · exact h1
      · have := hrl q hq; omega
    have e1 : a.1 = b.1 := by
      have m1 : mem (a :: l) a.1 = true := mem_iff.2 ⟨a, by simp, by omega, ha⟩
      have m2 : mem (b :: m) b.1 = true := mem_iff.2 ⟨b, by simp, by omega, hb⟩
      have := low hb hbm a.1 (by rw [← h]; exact m1)
      have := low ha hal b.1 (by rw [h]; exact m2)
      omega
    have out : ∀ {r : Run} {l : List Run}, (∀ q ∈ l, r.2 < q.1) → mem (r :: l) r.2 = false := by
      intro r l hrl
      rw [mem_cons, not_mem_of_lt hrl]; simp [inR]
    have e2 : a.2 = b.2 := by
      rcases Int.lt_trichotomy a.2 b.2 with h1 | h1 | h1
      · have m1 : mem (b :: m) a.2 = true := mem_iff.2 ⟨b, by simp, by omega, h1⟩
        rw [← h, out hal] at m1; simp at m1
      · exact h1
      · have m1 : mem (a :: l) b.2 = true := mem_iff.2 ⟨a, by simp, by omega, h1⟩
        rw [h, out hbm] at m1; simp at m1
    have e : a = b := Prod.ext e1 e2
    subst e
    have : l = m := by
      refine sep_ext hl' hm' fun x => ?_
      have hx := h x
      rw [mem_cons, mem_cons] at hx
      by_cases hc : x < a.2
      · rw [not_mem_of_lt (fun q hq => by have := hal q hq; omega), not_mem_of_lt (fun q hq => by have := hbm q hq; omega)]
      · have : inR a x = false := by simp [inR]; omega
        simpa [this] using hx
    rw [this]
theorem valid_iff {l : List Run} : valid l = true ↔ Sep l ∧ Fit l := by
  have step : ∀ k (hk : k < l.length), vstep l k = true ↔ (l[k].1 < l[k].2 ∧ fits l[k] = true ∧ ∀ (h : 0 < k), l[k-1].2 < l[k].1) := by
    intro k hk
    have h1 : l[k]? = some l[k] := List.getElem?_eq_getElem hk
    have h2 : l[k-1]? = some l[k-1] := List.getElem?_eq_getElem (by omega)
    simp only [vstep, h1, h2, Bool.and_eq_true, Bool.or_eq_true, beq_iff_eq, decide_eq_true_eq]
    constructor
    · rintro ⟨⟨a, b⟩, c⟩; exact ⟨a, b, fun h => by rcases c with c | c; omega; exact c⟩
    · rintro ⟨a, b, c⟩; refine ⟨⟨a, b⟩, ?_⟩
      rcases Nat.eq_zero_or_pos k with h | h
      · exact .inl h
      · exact .inr (c h)
  have hall : valid l = true ↔ ∀ k (hk : k < l.length), (l[k].1 < l[k].2 ∧ fits l[k] = true ∧ ∀ (h : 0 < k), l[k-1].2 < l[k].1) := by
    simp only [valid, validTo, List.all_eq_true, List.mem_range]
    constructor
    · intro h k hk; exact (step k hk).1 (h k hk)
    · intro h k hk; exact (step k hk).2 (h k hk)
  rw [hall]
  constructor
  · intro h
    refine ⟨⟨fun r hr => ?_, ?_⟩, fun r hr => ?_⟩
    · obtain ⟨k, hk, rfl⟩ := List.getElem_of_mem hr; exact (h k hk).1
    · rw [List.pairwise_iff_getElem]
      intro i j hi hj hij
      have : ∀ d i (hi : i < l.length) (hj : i + 1 + d < l.length), l[i].2 < l[i + 1 + d].1 := by
        intro d
        induction d with
        | zero => intro i hi hj; have := (h (i+1) hj).2.2 (by omega); simpa using this
        | succ d ih =>
          intro i hi hj
          have a := ih i hi (by omega)
          have b := (h (i + 1 + d) (by omega)).1
          have c := (h (i + 1 + d + 1) (by omega)).2.2 (by omega)
          simp only [Nat.add_sub_cancel] at c
          have : l[i + 1 + (d + 1)] = l[i + 1 + d + 1] := rfl
          rw [this]; omega
      have := this (j - i - 1) i hi (by omega)
      have e : i + 1 + (j - i - 1) = j := by omega
      simpa [e] using this
    · obtain ⟨k, hk, rfl⟩ := List.getElem_of_mem hr; exact (h k hk).2.1
  · rintro ⟨⟨h1, h2⟩, h3⟩ k hk
    refine ⟨h1 _ (List.getElem_mem hk), h3 _ (List.getElem_mem hk), fun h => ?_⟩
    exact (List.pairwise_iff_getElem.1 h2) (k-1) k (by omega) hk (by omega)
/-- the program's join -/
def jstep (out : List Run) (r : Run) : List Run := match out.getLast? with
  | some q => if r.1 ≤ q.2 then out.dropLast ++ [(q.1, max q.2 r.2)] else out ++ [r]
  | none => out ++ [r]
def jn (l : List Run) : List Run := l.foldl jstep []
theorem sep_append {l m : List Run} : Sep (l ++ m) ↔ Sep l ∧ Sep m ∧ ∀ q ∈ l, ∀ r ∈ m, q.2 < r.1 := by
  simp only [Sep, List.mem_append, List.pairwise_append]
  grind
theorem jstep_spec {out : List Run} {r : Run} (h : Sep out) (hr : r.1 < r.2) (hs : ∀ q ∈ out, q.1 ≤ r.1) :
    Sep (jstep out r) ∧ (∀ x, mem (jstep out r) x = (mem out x || inR r x)) ∧ ∀ q ∈ jstep out r, q.1 ≤ r.1 := by
  rcases List.eq_nil_or_concat out with rfl | ⟨l, q, rfl⟩
  · simp [jstep, Sep, hr, mem]
  · simp only [List.concat_eq_append] at *
    have hj : jstep (l ++ [q]) r = if r.1 ≤ q.2 then l ++ [(q.1, max q.2 r.2)] else l ++ [q] ++ [r] := by simp [jstep]
    obtain ⟨hl, hq, hlq⟩ := sep_append.1 h
    have hq1 := hs q (by simp)
    have hq2 := hq.1 q (by simp)
    rw [hj]
    split
    · rename_i hc
      refine ⟨sep_append.2 ⟨hl, ?_, ?_⟩, ?_, ?_⟩
      · simp [Sep]; omega
      · intro a ha b hb; simp at hb; subst hb; exact hlq a ha q (by simp)
      · intro x; rw [mem_append, mem_append, Bool.or_assoc]; congr 1
        rw [Bool.eq_iff_iff]; simp [mem, inR]; omega
      · intro a ha; simp at ha; rcases ha with ha | rfl
        · exact hs a (by simp [ha])
        · exact hq1
    · rename_i hc
      refine ⟨sep_append.2 ⟨h, by simp [Sep, hr], ?_⟩, ?_, ?_⟩
      · intro a ha b hb; simp at hb; subst hb
        rcases List.mem_append.1 ha with ha | ha
        · have := hlq a ha q (by simp); omega
        · simp at ha; subst ha; omega
      · intro x; rw [mem_append]; simp [mem]
      · intro a ha; simp at ha; rcases ha with ha | rfl | rfl
        · exact hs a (by simp [ha])
        · exact hq1
        · omega
theorem jn_spec {l : List Run} (h1 : ∀ r ∈ l, r.1 < r.2) (h2 : l.Pairwise (fun a b => a.1 ≤ b.1)) : Sep (jn l) ∧ ∀ x, mem (jn l) x = mem l x := by
  have key : ∀ (l out : List Run), Sep out → (∀ r ∈ l, r.1 < r.2) → l.Pairwise (fun a b => a.1 ≤ b.1) → (∀ q ∈ out, ∀ r ∈ l, q.1 ≤ r.1) →
      Sep (l.foldl jstep out) ∧ ∀ x, mem (l.foldl jstep out) x = (mem out x || mem l x) := by
    intro l
    induction l with
    | nil => intro out h _ _ _; exact ⟨h, fun x => by simp [mem]⟩
    | cons r l ih =>
      intro out h h1 h2 h3
      obtain ⟨s1, s2, s3⟩ := jstep_spec h (h1 r (by simp)) (fun q hq => h3 q hq r (by simp))
      obtain ⟨p1, p2⟩ := List.pairwise_cons.1 h2
      have := ih (jstep out r) s1 (fun q hq => h1 q (by simp [hq])) p2 (fun q hq b hb => by have := s3 q hq; have := p1 b hb; omega)
      refine ⟨this.1, fun x => ?_⟩
      rw [List.foldl_cons, this.2, s2, mem_cons, Bool.or_assoc]
  have := key l [] sep_nil h1 h2 (by simp)
  exact ⟨this.1, fun x => by rw [jn, this.2]; simp [mem]⟩
end Runs
end Go.Proofs.Ytfoedkdmckhihaa

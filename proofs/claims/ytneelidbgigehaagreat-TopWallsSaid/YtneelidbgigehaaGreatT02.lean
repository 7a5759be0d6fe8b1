/- Lemmas: Plain. -/
import Derived.Test.YtneelidbgigehaaGreatT01
/- Plain facts on lists of runs: sets of integers, with no program in sight. (joined: RunsMath RunsMath2 RunsSweepMath RegMath RegMath2 RegSortM) -/
/- Plain facts on lists of runs: sets of integers, with no program in sight. -/
namespace Go.Proofs.YtneelidbgigehaaGreat
set_option linter.unusedSimpArgs false
set_option linter.unusedVariables false
namespace Runs
abbrev Run := Int × Int
def fits (r : Run) : Bool := decide (-1048576 ≤ r.1 ∧ r.1 ≤ 1048576 ∧ -1048576 ≤ r.2 ∧ r.2 ≤ 1048576)
/-- the k-th step of Valid -/
def vstep (l : List Run) (k : Nat) : Bool := match l[k]? with
  | none => true
  | some r => decide (r.1 < r.2) && fits r && (k == 0 || (match l[k - 1]? with | none => true | some q => decide (q.2 < r.1)))
def validTo (l : List Run) (k : Nat) : Bool := (List.range k).all (vstep l)
def valid (l : List Run) : Bool := validTo l l.length
def inR (r : Run) (x : Int) : Bool := decide (r.1 ≤ x) && decide (x < r.2)
def mem (l : List Run) (x : Int) : Bool := l.any (inR · x)
/-- runs that are not empty, ascending and apart -/
def Sep (l : List Run) : Prop := (∀ r ∈ l, r.1 < r.2) ∧ l.Pairwise (fun q r => q.2 < r.1)
def Fit (l : List Run) : Prop := ∀ r ∈ l, fits r = true

theorem mem_iff {l : List Run} {x : Int} : mem l x = true ↔ ∃ r ∈ l, r.1 ≤ x ∧ x < r.2 := by
  simp [mem, inR]
theorem mem_nil (x : Int) : mem [] x = false := rfl
theorem mem_cons (r : Run) (l : List Run) (x : Int) : mem (r :: l) x = (inR r x || mem l x) := rfl
theorem mem_append (l m : List Run) (x : Int) : mem (l ++ m) x = (mem l x || mem m x) := by simp [mem]
theorem sep_cons {r : Run} {l : List Run} : Sep (r :: l) ↔ r.1 < r.2 ∧ (∀ q ∈ l, r.2 < q.1) ∧ Sep l := by
  simp only [Sep, List.mem_cons, List.pairwise_cons]
  constructor
  · rintro ⟨h1, h2, h3⟩; exact ⟨h1 r (.inl rfl), h2, fun q hq => h1 q (.inr hq), h3⟩
  · rintro ⟨h1, h2, h3, h4⟩; exact ⟨fun q hq => by rcases hq with rfl | hq; exact h1; exact h3 q hq, h2, h4⟩
theorem sep_nil : Sep [] := ⟨by simp, List.Pairwise.nil⟩
theorem not_mem_of_lt {l : List Run} {x : Int} (h : ∀ q ∈ l, x < q.1) : mem l x = false := by
  rw [Bool.eq_false_iff]; intro hm
  obtain ⟨r, hr, h1, h2⟩ := mem_iff.1 hm
  have := h r hr; omega
/-- a list of a set is given by its members -/
theorem sep_ext : ∀ {l m : List Run}, Sep l → Sep m → (∀ x, mem l x = mem m x) → l = m
  | [], [], _, _, _ => rfl
  | [], b :: m, _, hm, h => by
    have := h b.1
    rw [mem_nil, mem_cons] at this
    have hb := (sep_cons.1 hm).1
    simp [inR, hb] at this
  | a :: l, [], hl, _, h => by
    have := h a.1
    rw [mem_nil, mem_cons] at this
    have hb := (sep_cons.1 hl).1
    simp [inR, hb] at this
  | a :: l, b :: m, hl, hm, h => by
    obtain ⟨ha, hal, hl'⟩ := sep_cons.1 hl
    obtain ⟨hb, hbm, hm'⟩ := sep_cons.1 hm
    have low : ∀ {r : Run} {l : List Run}, r.1 < r.2 → (∀ q ∈ l, r.2 < q.1) → ∀ x, mem (r :: l) x = true → r.1 ≤ x := by
      intro r l hr hrl x hx
      obtain ⟨q, hq, h1, _⟩ := mem_iff.1 hx
      rcases List.mem_cons.1 hq with rfl | hq
      · exact h1
      · have := hrl q hq; omega
    have e1 : a.1 = b.1 := by
      have m1 : mem (a :: l) a.1 = true := mem_iff.2 ⟨a, by simp, by omega, ha⟩
      have m2 : mem (b :: m) b.1 = true := mem_iff.2 ⟨b, by simp, by omega, hb⟩
      have := low hb hbm a.1 (by rw [← h]; exact m1)
      have := low ha hal b.1 (by rw [h]; exact m2)
      omega
    have out : ∀ {r : Run} {l : List Run}, (∀ q ∈ l, r.2 < q.1) → mem (r :: l) r.2 = false := by
      intro r l hrl
      rw [mem_cons, not_mem_of_lt hrl]; simp [inR]
    have e2 : a.2 = b.2 := by
      rcases Int.lt_trichotomy a.2 b.2 with h1 | h1 | h1
      · have m1 : mem (b :: m) a.2 = true := mem_iff.2 ⟨b, by simp, by omega, h1⟩
        rw [← h, out hal] at m1; simp at m1
      · exact h1
      · have m1 : mem (a :: l) b.2 = true := mem_iff.2 ⟨a, by simp, by omega, h1⟩
        rw [h, out hbm] at m1; simp at m1
    have e : a = b := Prod.ext e1 e2
    subst e
    have : l = m := by
      refine sep_ext hl' hm' fun x => ?_
      have hx := h x
      rw [mem_cons, mem_cons] at hx
      by_cases hc : x < a.2
      · rw [not_mem_of_lt (fun q hq => by have := hal q hq; omega), not_mem_of_lt (fun q hq => by have := hbm q hq; omega)]
      · have : inR a x = false := by simp [inR]; omega
        simpa [this] using hx
    rw [this]
theorem valid_iff {l : List Run} : valid l = true ↔ Sep l ∧ Fit l := by
  have step : ∀ k (hk : k < l.length), vstep l k = true ↔ (l[k].1 < l[k].2 ∧ fits l[k] = true ∧ ∀ (h : 0 < k), l[k-1].2 < l[k].1) := by
    intro k hk
    have h1 : l[k]? = some l[k] := List.getElem?_eq_getElem hk
    have h2 : l[k-1]? = some l[k-1] := List.getElem?_eq_getElem (by omega)
    simp only [vstep, h1, h2, Bool.and_eq_true, Bool.or_eq_true, beq_iff_eq, decide_eq_true_eq]
    constructor
    · rintro ⟨⟨a, b⟩, c⟩; exact ⟨a, b, fun h => by rcases c with c | c; omega; exact c⟩
    · rintro ⟨a, b, c⟩; refine ⟨⟨a, b⟩, ?_⟩
      rcases Nat.eq_zero_or_pos k with h | h
      · exact .inl h
      · exact .inr (c h)
  have hall : valid l = true ↔ ∀ k (hk : k < l.length), (l[k].1 < l[k].2 ∧ fits l[k] = true ∧ ∀ (h : 0 < k), l[k-1].2 < l[k].1) := by
    simp only [valid, validTo, List.all_eq_true, List.mem_range]
    constructor
    · intro h k hk; exact (step k hk).1 (h k hk)
    · intro h k hk; exact (step k hk).2 (h k hk)
  rw [hall]
  constructor
  · intro h
    refine ⟨⟨fun r hr => ?_, ?_⟩, fun r hr => ?_⟩
    · obtain ⟨k, hk, rfl⟩ := List.getElem_of_mem hr; exact (h k hk).1
    · rw [List.pairwise_iff_getElem]
      intro i j hi hj hij
      have : ∀ d i (hi : i < l.length) (hj : i + 1 + d < l.length), l[i].2 < l[i + 1 + d].1 := by
        intro d
        induction d with
        | zero => intro i hi hj; have := (h (i+1) hj).2.2 (by omega); simpa using this
        | succ d ih =>
          intro i hi hj
          have a := ih i hi (by omega)
          have b := (h (i + 1 + d) (by omega)).1
          have c := (h (i + 1 + d + 1) (by omega)).2.2 (by omega)
          simp only [Nat.add_sub_cancel] at c
          have : l[i + 1 + (d + 1)] = l[i + 1 + d + 1] := rfl
          rw [this]; omega
      have := this (j - i - 1) i hi (by omega)
      have e : i + 1 + (j - i - 1) = j := by omega
      simpa [e] using this
    · obtain ⟨k, hk, rfl⟩ := List.getElem_of_mem hr; exact (h k hk).2.1
  · rintro ⟨⟨h1, h2⟩, h3⟩ k hk
    refine ⟨h1 _ (List.getElem_mem hk), h3 _ (List.getElem_mem hk), fun h => ?_⟩
    exact (List.pairwise_iff_getElem.1 h2) (k-1) k (by omega) hk (by omega)
theorem sep_append {l m : List Run} : Sep (l ++ m) ↔ Sep l ∧ Sep m ∧ ∀ q ∈ l, ∀ r ∈ m, q.2 < r.1 := by
  simp only [Sep, List.mem_append, List.pairwise_append]
  grind
end Runs
end Go.Proofs.YtneelidbgigehaaGreat
/- Plain facts on the chapter's definitions for runs: bounds, Normal, the set operations; with no program in sight. -/
namespace Go.Proofs.YtneelidbgigehaaGreat
set_option linter.unusedSimpArgs false
set_option linter.unusedVariables false
namespace Runs
/-- the chapter's insert -/
def ins : List Int → Int → List Int
  | [], x => [x]
  | y :: l, x => if x ≤ y then (if x < y then x :: y :: l else y :: l) else y :: ins l x
theorem ins_mem (l : List Int) (x y : Int) : y ∈ ins l x ↔ y = x ∨ y ∈ l := by
  induction l with
  | nil => simp [ins]
  | cons z l ih =>
    simp only [ins]
    split
    · split
      · simp
      · have : x = z := by omega
        subst this; simp
    · simp [ih]; grind
def Asc (l : List Int) : Prop := l.Pairwise (· < ·)
theorem ins_asc {l : List Int} {x : Int} (h : Asc l) : Asc (ins l x) := by
  induction l with
  | nil => simp [ins, Asc]
  | cons z l ih =>
    obtain ⟨h1, h2⟩ := List.pairwise_cons.1 h
    simp only [ins]
    split
    · split
      · refine List.pairwise_cons.2 ⟨fun a ha => ?_, h⟩
        rcases List.mem_cons.1 ha with rfl | ha
        · omega
        · have := h1 a ha; omega
      · exact h
    · refine List.pairwise_cons.2 ⟨fun a ha => ?_, ih h2⟩
      rcases (ins_mem l x a).1 ha with rfl | ha
      · omega
      · exact h1 a ha
def bstep (b : List Int) (r : Run) : List Int := if r.1 < r.2 then ins (ins b r.1) r.2 else b
def bnds (l : List Run) : List Int := l.foldl bstep []
theorem bnds_spec (l : List Run) : Asc (bnds l) ∧ ∀ x, x ∈ bnds l ↔ ∃ r ∈ l, r.1 < r.2 ∧ (x = r.1 ∨ x = r.2) := by
  have key : ∀ (l : List Run) (b : List Int), Asc b → Asc (l.foldl bstep b) ∧ ∀ x, x ∈ l.foldl bstep b ↔ x ∈ b ∨ ∃ r ∈ l, r.1 < r.2 ∧ (x = r.1 ∨ x = r.2) := by
    intro l
    induction l with
    | nil => intro b hb; simp [hb]
    | cons r l ih =>
      intro b hb
      have hb' : Asc (bstep b r) := by unfold bstep; split; exact ins_asc (ins_asc hb); exact hb
      obtain ⟨h1, h2⟩ := ih (bstep b r) hb'
      refine ⟨h1, fun x => ?_⟩
      rw [List.foldl_cons, h2]
      have hm : x ∈ bstep b r ↔ x ∈ b ∨ (r.1 < r.2 ∧ (x = r.1 ∨ x = r.2)) := by
        unfold bstep; split
        · rw [ins_mem, ins_mem]; grind
        · grind
      rw [hm]; simp; grind
  have := key l [] (by simp [Asc])
  exact ⟨this.1, fun x => by rw [bnds, this.2]; simp⟩
/-- the chapter's put -/
def put (l : List Run) (a b : Int) : List Run := match l.getLast? with
  | some q => if q.2 = a then l.dropLast ++ [(q.1, b)] else l ++ [(a, b)]
  | none => l ++ [(a, b)]
theorem put_nil (a b : Int) : put [] a b = [(a, b)] := rfl
theorem put_yes {E : List Run} {q : Run} {b : Int} : put (E ++ [q]) q.2 b = E ++ [(q.1, b)] := by simp [put]
theorem put_no {E : List Run} {q : Run} {a b : Int} (h : q.2 ≠ a) : put (E ++ [q]) a b = E ++ [q] ++ [(a, b)] := by simp [put, h]
theorem put_len (l : List Run) (a b : Int) : (put l a b).length ≤ l.length + 1 := by
  rcases List.eq_nil_or_concat l with rfl | ⟨E, q, rfl⟩
  · simp [put]
  · rw [List.concat_eq_append]
    by_cases h : q.2 = a
    · subst h; rw [put_yes]; simp
    · rw [put_no h]; simp
def at_ (b : List Int) (i : Nat) : Int := b[i]?.getD 0
def swStep (P : Int → Bool) (b : List Int) (out : List Run) (i : Nat) : List Run := if P (at_ b i) then put out (at_ b i) (at_ b (i + 1)) else out
def swTo (P : Int → Bool) (b : List Int) (k : Nat) : List Run := (List.range k).foldl (swStep P b) []
/-- the runs between the numbers of b at which P holds -/
def sw (P : Int → Bool) (b : List Int) : List Run := swTo P b (b.length - 1)
theorem swTo_succ (P : Int → Bool) (b : List Int) (k : Nat) : swTo P b (k + 1) = swStep P b (swTo P b k) k := by
  unfold swTo; rw [List.range_succ, List.foldl_append]; rfl
theorem at_get {b : List Int} {i : Nat} (h : i < b.length) : at_ b i = b[i] := by simp [at_, h]
theorem asc_at {b : List Int} (h : Asc b) {i j : Nat} (hij : i < j) (hj : j < b.length) : at_ b i < at_ b j := by
  rw [at_get (by omega), at_get hj]
  exact (List.pairwise_iff_getElem.1 h) i j (by omega) hj hij
theorem swTo_spec {P : Int → Bool} {b : List Int} (hb : Asc b) : ∀ k, k + 1 ≤ b.length →
    Sep (swTo P b k) ∧ (∀ q ∈ swTo P b k, q.2 ≤ at_ b k) ∧ ∀ x, mem (swTo P b k) x = true ↔ ∃ i, i < k ∧ at_ b i ≤ x ∧ x < at_ b (i + 1) ∧ P (at_ b i) = true := by
  intro k
  induction k with
  | zero => intro _; simp [swTo, sep_nil, mem]
  | succ k ih =>
    intro hk
    obtain ⟨s1, s2, s3⟩ := ih (by omega)
    have hlt := asc_at hb (i := k) (j := k + 1) (by omega) (by omega)
    rw [swTo_succ]
    unfold swStep
    split
    · rename_i hP
      have hmem : ∀ x, (mem (swTo P b k) x = true ∨ (at_ b k ≤ x ∧ x < at_ b (k + 1))) ↔ ∃ i, i < k + 1 ∧ at_ b i ≤ x ∧ x < at_ b (i + 1) ∧ P (at_ b i) = true := by
        intro x
        rw [s3]
        constructor
        · rintro (⟨i, h1, h2⟩ | h)
          · exact ⟨i, by omega, h2⟩
          · exact ⟨k, by omega, h.1, h.2, hP⟩
        · rintro ⟨i, h1, h2, h3, h4⟩
          rcases Nat.lt_succ_iff_lt_or_eq.1 h1 with h | rfl
          · exact .inl ⟨i, h, h2, h3, h4⟩
          · exact .inr ⟨h2, h3⟩
      rcases List.eq_nil_or_concat (swTo P b k) with hE | ⟨E, q, hE⟩
      · rw [hE] at s1 s2 s3 hmem ⊢
        rw [put_nil]
        refine ⟨by simp [Sep, hlt], by simp, fun x => ?_⟩
        rw [← hmem]; simp [mem, inR]
      · rw [List.concat_eq_append] at hE
        rw [hE] at s1 s2 s3 hmem ⊢
        obtain ⟨t1, t2, t3⟩ := sep_append.1 s1
        have hq := t2.1 q (by simp)
        have hq2 := s2 q (by simp)
        by_cases h : q.2 = at_ b k
        · have e : put (E ++ [q]) (at_ b k) (at_ b (k + 1)) = E ++ [(q.1, at_ b (k + 1))] := by rw [← h, put_yes]
          rw [e]
          refine ⟨sep_append.2 ⟨t1, by simp [Sep]; omega, fun a ha r hr => ?_⟩, fun a ha => ?_, fun x => ?_⟩
          · simp at hr; subst hr; exact t3 a ha q (by simp)
          · simp at ha; rcases ha with ha | rfl
            · have := s2 a (by simp [ha]); omega
            · simp
          · rw [← hmem, mem_append, mem_append]; simp [mem, inR]; grind
        · rw [put_no h]
          refine ⟨sep_append.2 ⟨s1, by simp [Sep, hlt], fun a ha r hr => ?_⟩, fun a ha => ?_, fun x => ?_⟩
          · simp at hr; subst hr
            rcases List.mem_append.1 ha with ha | ha
            · have := t3 a ha q (by simp); omega
            · simp at ha; subst ha; simp; omega
          · simp at ha; rcases ha with ha | rfl | rfl
            · have := s2 a (by simp [ha]); omega
            · omega
            · simp
          · rw [← hmem, mem_append (E ++ [q])]; simp [mem, inR]
    · rename_i hP
      refine ⟨s1, fun q hq => by have := s2 q hq; omega, fun x => ?_⟩
      rw [s3]
      constructor
      · rintro ⟨i, h1, h2⟩; exact ⟨i, by omega, h2⟩
      · rintro ⟨i, h1, h2, h3, h4⟩
        rcases Nat.lt_succ_iff_lt_or_eq.1 h1 with h | rfl
        · exact ⟨i, h, h2, h3, h4⟩
        · exact absurd h4 hP
/-- where P is constant between the numbers of b and false beyond them, the runs are the set P -/
theorem sw_spec {P : Int → Bool} {b : List Int} (hb : Asc b) (hc : ∀ c d x, c ∈ b → d ∈ b → (∀ e ∈ b, e ≤ c ∨ d ≤ e) → c ≤ x → x < d → P x = P c)
    (h0 : ∀ x, (∀ e ∈ b, x < e) → P x = false) (h1 : ∀ x, (∀ e ∈ b, e ≤ x) → P x = false) : Sep (sw P b) ∧ ∀ x, mem (sw P b) x = P x := by
  by_cases hn : b.length = 0
  · have : b = [] := List.eq_nil_of_length_eq_zero hn
    subst this
    refine ⟨sep_nil, fun x => ?_⟩
    rw [h0 x (by simp)]; rfl
  obtain ⟨s1, s2, s3⟩ := swTo_spec (P := P) hb (b.length - 1) (by omega)
  refine ⟨s1, fun x => ?_⟩
  rw [Bool.eq_iff_iff]
  show mem (swTo P b (b.length - 1)) x = true ↔ _
  rw [s3]
  have hmem : ∀ i, i < b.length → at_ b i ∈ b := fun i hi => by rw [at_get hi]; exact List.getElem_mem hi
  have hgap : ∀ i, i + 1 < b.length → ∀ e ∈ b, e ≤ at_ b i ∨ at_ b (i + 1) ≤ e := by
    intro i hi e he
    obtain ⟨j, hj, rfl⟩ := List.getElem_of_mem he
    rw [← at_get hj]
    rcases Nat.lt_or_ge i j with h | h
    · rcases Nat.eq_or_lt_of_le h with h' | h'
      · right; rw [← h']; exact Int.le_refl _
      · right; have : at_ b (i + 1) < at_ b j := asc_at hb h' hj; omega
    · rcases Nat.eq_or_lt_of_le h with h' | h'
      · left; rw [h']; exact Int.le_refl _
      · left; have := asc_at hb h' (by omega); omega
  constructor
  · rintro ⟨i, h2, h3, h4, h5⟩
    rw [hc (at_ b i) (at_ b (i + 1)) x (hmem _ (by omega)) (hmem _ (by omega)) (hgap i (by omega)) h3 h4]; exact h5
  · intro hx
    have hlo : at_ b 0 ≤ x := by
      rcases Int.lt_or_le x (at_ b 0) with h | h
      · rw [h0 x (fun e he => ?_)] at hx
        · cases hx
        · obtain ⟨j, hj, rfl⟩ := List.getElem_of_mem he
          rw [← at_get hj]
          rcases Nat.eq_zero_or_pos j with rfl | h'
          · exact h
          · have := asc_at hb h' hj; omega
      · exact h
    have hhi : x < at_ b (b.length - 1) := by
      rcases Int.lt_or_le x (at_ b (b.length - 1)) with h | h
      · exact h
      · rw [h1 x (fun e he => ?_)] at hx
        · cases hx
        · obtain ⟨j, hj, rfl⟩ := List.getElem_of_mem he
          rw [← at_get hj]
          rcases Nat.eq_or_lt_of_le (Nat.le_sub_one_of_lt hj) with h' | h'
          · rw [h']; exact h
          · have := asc_at hb h' (by omega); omega
    have find : ∀ k, k < b.length → x < at_ b k → ∃ i, i < k ∧ at_ b i ≤ x ∧ x < at_ b (i + 1) := by
      intro k
      induction k with
      | zero => intro _ h; omega
      | succ k ih =>
        intro hk hlt
        rcases Int.lt_or_le x (at_ b k) with h | h
        · obtain ⟨i, h2, h3⟩ := ih (by omega) h; exact ⟨i, by omega, h3⟩
        · exact ⟨k, by omega, h, hlt⟩
    obtain ⟨i, h2, h3, h4⟩ := find _ (by omega) hhi
    refine ⟨i, h2, h3, h4, ?_⟩
    rw [← hc (at_ b i) (at_ b (i + 1)) x (hmem _ (by omega)) (hmem _ (by omega)) (hgap i (by omega)) h3 h4]; exact hx
/-- membership changes only at bounds -/
theorem mem_const {l : List Run} {b : List Int} (hl : ∀ r ∈ l, r.1 < r.2 → r.1 ∈ b ∧ r.2 ∈ b) {c d x : Int} (hg : ∀ e ∈ b, e ≤ c ∨ d ≤ e) (h1 : c ≤ x) (h2 : x < d) : mem l x = mem l c := by
  rw [Bool.eq_iff_iff, mem_iff, mem_iff]
  constructor
  · rintro ⟨r, hr, h3, h4⟩
    have := hg r.1 (hl r hr (by omega)).1
    exact ⟨r, hr, by omega, by omega⟩
  · rintro ⟨r, hr, h3, h4⟩
    have := hg r.2 (hl r hr (by omega)).2
    exact ⟨r, hr, by omega, by omega⟩
theorem mem_lo {l : List Run} {b : List Int} (hl : ∀ r ∈ l, r.1 < r.2 → r.1 ∈ b ∧ r.2 ∈ b) {x : Int} (h : ∀ e ∈ b, x < e) : mem l x = false := by
  rw [Bool.eq_false_iff]; intro hm
  obtain ⟨r, hr, h3, h4⟩ := mem_iff.1 hm
  have := h r.1 (hl r hr (by omega)).1; omega
theorem mem_hi {l : List Run} {b : List Int} (hl : ∀ r ∈ l, r.1 < r.2 → r.1 ∈ b ∧ r.2 ∈ b) {x : Int} (h : ∀ e ∈ b, e ≤ x) : mem l x = false := by
  rw [Bool.eq_false_iff]; intro hm
  obtain ⟨r, hr, h3, h4⟩ := mem_iff.1 hm
  have := h r.2 (hl r hr (by omega)).2; omega
/-- the chapter's Normal -/
def normal (l : List Run) : List Run := sw (mem l) (bnds l)
/-- the chapter's choose, for lists of any kind -/
def choose (f : Bool → Bool → Bool) (a b : List Run) : List Run := sw (fun x => f (mem a x) (mem b x)) (bnds (a ++ b))
theorem choose_spec {f : Bool → Bool → Bool} (hf : f false false = false) (a b : List Run) : Sep (choose f a b) ∧ ∀ x, mem (choose f a b) x = f (mem a x) (mem b x) := by
  obtain ⟨h1, h2⟩ := bnds_spec (a ++ b)
  have ha : ∀ r ∈ a, r.1 < r.2 → r.1 ∈ bnds (a ++ b) ∧ r.2 ∈ bnds (a ++ b) := fun r hr h => ⟨(h2 _).2 ⟨r, by simp [hr], h, .inl rfl⟩, (h2 _).2 ⟨r, by simp [hr], h, .inr rfl⟩⟩
  have hb : ∀ r ∈ b, r.1 < r.2 → r.1 ∈ bnds (a ++ b) ∧ r.2 ∈ bnds (a ++ b) := fun r hr h => ⟨(h2 _).2 ⟨r, by simp [hr], h, .inl rfl⟩, (h2 _).2 ⟨r, by simp [hr], h, .inr rfl⟩⟩
  exact sw_spec h1 (fun c d x _ _ hg u v => by rw [mem_const ha hg u v, mem_const hb hg u v]) (fun x h => by rw [mem_lo ha h, mem_lo hb h, hf]) (fun x h => by rw [mem_hi ha h, mem_hi hb h, hf])
/-- a set operation: nothing if a list is not valid -/
def setop (f : Bool → Bool → Bool) (a b : List Run) : List Run := if valid a && valid b then choose f a b else []
/-- the two bounds of a run of a list of a set are a member and no member, next to each other -/
theorem sep_ends {l : List Run} (h : Sep l) {r : Run} (hr : r ∈ l) : mem l r.1 = true ∧ mem l (r.2 - 1) = true := by
  have := h.1 r hr
  exact ⟨mem_iff.2 ⟨r, hr, by omega, by omega⟩, mem_iff.2 ⟨r, hr, by omega, by omega⟩⟩
theorem fit_mem {l : List Run} (h : Fit l) {x : Int} (hx : mem l x = true) : -1048576 ≤ x ∧ x < 1048576 := by
  obtain ⟨r, hr, h1, h2⟩ := mem_iff.1 hx
  have := h r hr
  simp [fits] at this
  omega
theorem fit_of_mem {l : List Run} (h : Sep l) (hm : ∀ x, mem l x = true → -1048576 ≤ x ∧ x < 1048576) : Fit l := by
  intro r hr
  obtain ⟨h1, h2⟩ := sep_ends h hr
  have := hm _ h1
  have := hm _ h2
  have := h.1 r hr
  simp [fits]; omega
theorem valid_choose {f : Bool → Bool → Bool} (hf : f false false = false) {a b : List Run} (ha : valid a = true) (hb : valid b = true) : valid (choose f a b) = true := by
  obtain ⟨h1, h2⟩ := choose_spec hf a b
  refine valid_iff.2 ⟨h1, fit_of_mem h1 fun x hx => ?_⟩
  rw [h2] at hx
  cases ma : mem a x
  · cases mb : mem b x
    · rw [ma, mb, hf] at hx; cases hx
    · exact fit_mem (valid_iff.1 hb).2 mb
  · exact fit_mem (valid_iff.1 ha).2 ma
end Runs
end Go.Proofs.YtneelidbgigehaaGreat
/- The sweep over the bounds of two lists: what holds at each of its steps; with no program in sight. -/
namespace Go.Proofs.YtneelidbgigehaaGreat
set_option linter.unusedSimpArgs false
set_option linter.unusedVariables false
namespace Runs
/-- the i-th bound of a list -/
def bdAt (l : List Run) (i : Nat) : Int := if i % 2 = 1 then (l[i / 2]?.getD (0, 0)).2 else (l[i / 2]?.getD (0, 0)).1
def nextB (l : List Run) (i : Nat) : Int := if i = 2 * l.length then 1048577 else bdAt l i
def passB (l : List Run) (i : Nat) (x : Int) : Nat := if nextB l i = x then i + 1 else i
def odd (i : Nat) : Bool := decide (i % 2 = 1)
theorem bdAt_even {l : List Run} {m : Nat} (h : m < l.length) : bdAt l (2 * m) = l[m].1 := by
  unfold bdAt; rw [if_neg (by omega), show 2 * m / 2 = m by omega, List.getElem?_eq_getElem h]; rfl
theorem bdAt_odd {l : List Run} {m : Nat} (h : m < l.length) : bdAt l (2 * m + 1) = l[m].2 := by
  unfold bdAt; rw [if_pos (by omega), show (2 * m + 1) / 2 = m by omega, List.getElem?_eq_getElem h]; rfl
theorem bdAt_step {l : List Run} (hs : Sep l) {k : Nat} (h : k + 1 < 2 * l.length) : bdAt l k < bdAt l (k + 1) := by
  rcases Nat.mod_two_eq_zero_or_one k with h0 | h0
  · obtain ⟨m, rfl⟩ : ∃ m, k = 2 * m := ⟨k / 2, by omega⟩
    rw [bdAt_even (by omega), bdAt_odd (by omega)]
    exact hs.1 _ (List.getElem_mem _)
  · obtain ⟨m, rfl⟩ : ∃ m, k = 2 * m + 1 := ⟨k / 2, by omega⟩
    rw [bdAt_odd (by omega), show 2 * m + 1 + 1 = 2 * (m + 1) by omega, bdAt_even (by omega)]
    exact List.pairwise_iff_getElem.1 hs.2 m (m + 1) _ _ (by omega)
theorem bdAt_lt {l : List Run} (hs : Sep l) {k m : Nat} (h1 : k < m) (h2 : m < 2 * l.length) : bdAt l k < bdAt l m := by
  induction m with
  | zero => omega
  | succ m ih =>
    have := bdAt_step hs (k := m) (by omega)
    rcases Nat.eq_or_lt_of_le (Nat.le_of_lt_succ h1) with rfl | h
    · exact this
    · have := ih h (by omega); omega
theorem bdAt_fit {l : List Run} (hf : Fit l) {k : Nat} (h : k < 2 * l.length) : -1048576 ≤ bdAt l k ∧ bdAt l k ≤ 1048576 := by
  rcases Nat.mod_two_eq_zero_or_one k with h0 | h0
  · obtain ⟨m, rfl⟩ : ∃ m, k = 2 * m := ⟨k / 2, by omega⟩
    rw [bdAt_even (by omega)]
    have := hf _ (List.getElem_mem (by omega : m < l.length))
    simp [fits] at this; omega
  · obtain ⟨m, rfl⟩ : ∃ m, k = 2 * m + 1 := ⟨k / 2, by omega⟩
    rw [bdAt_odd (by omega)]
    have := hf _ (List.getElem_mem (by omega : m < l.length))
    simp [fits] at this; omega
/-- the first i bounds are at most y, the others are greater -/
def Split (l : List Run) (i : Nat) (y : Int) : Prop := (∀ k, k < i → k < 2 * l.length → bdAt l k ≤ y) ∧ ∀ k, i ≤ k → k < 2 * l.length → y < bdAt l k
theorem split_mem {l : List Run} {i : Nat} {y : Int} (h : Split l i y) (hi : i ≤ 2 * l.length) : mem l y = odd i := by
  rw [Bool.eq_iff_iff, mem_iff]
  unfold odd
  rw [decide_eq_true_eq]
  constructor
  · rintro ⟨r, hr, h1, h2⟩
    obtain ⟨m, hm, rfl⟩ := List.getElem_of_mem hr
    rw [← bdAt_even hm] at h1
    rw [← bdAt_odd hm] at h2
    have h3 : 2 * m < i := Nat.lt_of_not_le fun hc => by have := h.2 _ hc (by omega); omega
    have h4 : i ≤ 2 * m + 1 := Nat.le_of_not_lt fun hc => by have := h.1 _ hc (by omega); omega
    omega
  · intro ho
    obtain ⟨m, rfl⟩ : ∃ m, i = 2 * m + 1 := ⟨i / 2, by omega⟩
    have hm : m < l.length := by omega
    refine ⟨l[m], List.getElem_mem hm, ?_, ?_⟩
    · rw [← bdAt_even hm]; exact h.1 _ (by omega) (by omega)
    · rw [← bdAt_odd hm]; exact h.2 _ (Nat.le_refl _) (by omega)
theorem split_next {l : List Run} {i : Nat} {x x' : Int} (hs : Sep l) (hf : Fit l) (hi : i ≤ 2 * l.length) (h : Split l i x) (h1 : x < x') (h2 : x' ≤ nextB l i) (h3 : x' ≤ 1048576) :
    Split l (passB l i x') x' ∧ passB l i x' ≤ 2 * l.length ∧ ∀ y, x ≤ y → y < x' → Split l i y := by
  have ge : ∀ k, i ≤ k → k < 2 * l.length → bdAt l i ≤ bdAt l k := fun k hk hk2 => by
    rcases Nat.eq_or_lt_of_le hk with rfl | hlt
    · exact Int.le_refl _
    · exact Int.le_of_lt (bdAt_lt hs hlt hk2)
  unfold passB nextB at *
  by_cases hov : i = 2 * l.length
  · simp only [hov, if_true] at *
    rw [if_neg (by omega)]
    exact ⟨⟨fun k hk hk2 => by have := h.1 k hk hk2; omega, fun k hk hk2 => by omega⟩, Nat.le_refl _, fun y hy1 hy2 => ⟨fun k hk hk2 => by have := h.1 k hk hk2; omega, fun k hk hk2 => by omega⟩⟩
  · have hlt : i < 2 * l.length := by omega
    simp only [hov, if_false] at *
    refine ⟨?_, by split <;> omega, fun y hy1 hy2 => ⟨fun k hk hk2 => by have := h.1 k hk hk2; omega, fun k hk hk2 => by have := ge k hk hk2; omega⟩⟩
    split
    · rename_i he
      refine ⟨fun k hk hk2 => ?_, fun k hk hk2 => ?_⟩
      · rcases Nat.eq_or_lt_of_le (Nat.le_of_lt_succ hk) with rfl | hlt
        · omega
        · have := h.1 k hlt hk2; omega
      · have := bdAt_lt hs (k := i) (m := k) (by omega) hk2; omega
    · rename_i he
      exact ⟨fun k hk hk2 => by have := h.1 k hk hk2; omega, fun k hk hk2 => by have := ge k hk hk2; omega⟩
def setTo (l : List Run) (x : Int) : List Run := match l.getLast? with
  | some q => l.dropLast ++ [(q.1, x)]
  | none => []
theorem setTo_last (E : List Run) (q : Run) (x : Int) : setTo (E ++ [q]) x = E ++ [(q.1, x)] := by simp [setTo]
/-- what holds behind the bound x -/
structure SInv (f : Bool → Bool → Bool) (a b : List Run) (i j : Nat) (out : List Run) (opn : Bool) (x : Int) : Prop where
  hi : i ≤ 2 * a.length
  hj : j ≤ 2 * b.length
  len : out.length ≤ i + j
  sa : Split a i x
  sb : Split b j x
  ho : opn = f (odd i) (odd j)
  closed : opn = false → Sep out ∧ (∀ q ∈ out, q.2 ≤ x) ∧ ∀ y, y ≤ x → mem out y = f (mem a y) (mem b y)
  opened : opn = true → ∃ E s, out = E ++ [(s, 0)] ∧ s ≤ x ∧ Sep E ∧ (∀ q ∈ E, q.2 < s) ∧ ∀ y, y ≤ x → (mem E y || decide (s ≤ y)) = f (mem a y) (mem b y)
section
variable {f : Bool → Bool → Bool} {a b : List Run} {i j : Nat} {out : List Run} {opn : Bool} {x : Int}
theorem sinv_start (hf : f false false = false) (ha : valid a = true) (hb : valid b = true) : SInv f a b 0 0 [] false (-1048577) := by
  have fa := (valid_iff.1 ha).2
  have fb := (valid_iff.1 hb).2
  have s1 : Split a 0 (-1048577) := ⟨fun k hk => by omega, fun k _ hk => by have := bdAt_fit fa hk; omega⟩
  have s2 : Split b 0 (-1048577) := ⟨fun k hk => by omega, fun k _ hk => by have := bdAt_fit fb hk; omega⟩
  refine ⟨Nat.zero_le _, Nat.zero_le _, Nat.le_refl _, s1, s2, hf.symm, fun _ => ⟨sep_nil, by simp, fun y hy => ?_⟩, fun h => by cases h⟩
  have t1 : Split a 0 y := ⟨fun k hk => by omega, fun k h0 hk => by have := s1.2 k h0 hk; omega⟩
  have t2 : Split b 0 y := ⟨fun k hk => by omega, fun k h0 hk => by have := s2.2 k h0 hk; omega⟩
  rw [split_mem t1 (Nat.zero_le _), split_mem t2 (Nat.zero_le _)]
  exact hf.symm
theorem mem_above {E : List Run} {y : Int} (h : ∀ q ∈ E, q.2 ≤ y) : mem E y = false := by
  rw [Bool.eq_false_iff]; intro hm
  obtain ⟨q, hq, h1, h2⟩ := mem_iff.1 hm
  have := h q hq; omega
/-- one step of the sweep -/
theorem sinv_step (ha : valid a = true) (hb : valid b = true) (h : SInv f a b i j out opn x) (hne : i ≠ 2 * a.length ∨ j ≠ 2 * b.length) {x' : Int} (hx : x' = min (nextB a i) (nextB b j)) :
    SInv f a b (passB a i x') (passB b j x') (if f (odd (passB a i x')) (odd (passB b j x')) && !opn then out ++ [(x', 0)] else if !f (odd (passB a i x')) (odd (passB b j x')) && opn then setTo out x' else out) (f (odd (passB a i x')) (odd (passB b j x'))) x' ∧
    i + j < passB a i x' + passB b j x' ∧ passB a i x' + passB b j x' ≤ 2 * a.length + 2 * b.length := by
  obtain ⟨sa, fa⟩ := valid_iff.1 ha
  obtain ⟨sb, fb⟩ := valid_iff.1 hb
  have hi := h.hi
  have hj := h.hj
  have na : x < nextB a i := by
    unfold nextB; split
    · rename_i he
      rcases hne with h0 | h0
      · exact absurd he h0
      · have := h.sb.2 j (Nat.le_refl _) (by omega); have := bdAt_fit fb (k := j) (by omega); omega
    · exact h.sa.2 i (Nat.le_refl _) (by omega)
  have nb : x < nextB b j := by
    unfold nextB; split
    · rename_i he
      rcases hne with h0 | h0
      · have := h.sa.2 i (Nat.le_refl _) (by omega); have := bdAt_fit fa (k := i) (by omega); omega
      · exact absurd he h0
    · exact h.sb.2 j (Nat.le_refl _) (by omega)
  have h1 : x < x' := by omega
  have h3 : x' ≤ 1048576 := by
    rcases hne with h0 | h0
    · have := bdAt_fit fa (k := i) (by omega); have e : nextB a i = bdAt a i := by unfold nextB; rw [if_neg h0]
      omega
    · have := bdAt_fit fb (k := j) (by omega); have e : nextB b j = bdAt b j := by unfold nextB; rw [if_neg h0]
      omega
  obtain ⟨p1, p2, p3⟩ := split_next sa fa hi h.sa h1 (by omega) h3
  obtain ⟨q1, q2, q3⟩ := split_next sb fb hj h.sb h1 (by omega) h3
  have adv : i + j < passB a i x' + passB b j x' := by
    unfold passB
    rcases Int.le_total (nextB a i) (nextB b j) with hc | hc
    · rw [if_pos (by omega : nextB a i = x')]; split <;> omega
    · rw [if_pos (by omega : nextB b j = x')]; split <;> omega
  generalize passB a i x' = i' at *
  generalize passB b j x' = j' at *
  have between : ∀ y, x < y → y < x' → f (mem a y) (mem b y) = opn := fun y hy1 hy2 => by
    rw [split_mem (p3 y (by omega) hy2) hi, split_mem (q3 y (by omega) hy2) hj]; exact h.ho.symm
  have atx : f (mem a x') (mem b x') = f (odd i') (odd j') := by rw [split_mem p1 p2, split_mem q1 q2]
  refine ⟨?_, adv, by omega⟩
  generalize hn : f (odd i') (odd j') = now at *
  have hl := h.len
  cases opn
  · obtain ⟨c1, c2, c3⟩ := h.closed rfl
    have off : ∀ y, x < y → mem out y = false := fun y hy => mem_above fun q hq => by have := c2 q hq; omega
    cases now
    · refine ⟨p2, q2, by simp; omega, p1, q1, hn.symm, fun _ => ⟨c1, fun q hq => by have := c2 q hq; omega, fun y hy => ?_⟩, fun h => by cases h⟩
      show mem out y = _
      rcases Int.lt_or_le x y with hc | hc
      · rw [off y hc]
        rcases Int.lt_or_le y x' with hd | hd
        · rw [between y hc hd]
        · have : y = x' := by omega
          rw [this, atx]
      · exact c3 y hc
    · refine ⟨p2, q2, by simp; omega, p1, q1, hn.symm, (fun h => by cases h), fun _ => ⟨out, x', rfl, Int.le_refl _, c1, fun q hq => by have := c2 q hq; omega, fun y hy => ?_⟩⟩
      rcases Int.lt_or_le x y with hc | hc
      · rw [off y hc]
        rcases Int.lt_or_le y x' with hd | hd
        · rw [between y hc hd]; simp; omega
        · have : y = x' := by omega
          rw [this, atx]; simp
      · rw [c3 y hc]
        have : decide (x' ≤ y) = false := by simp; omega
        rw [this, Bool.or_false]
  · obtain ⟨E, s, rfl, o1, o2, o3, o4⟩ := h.opened rfl
    have off : ∀ y, s ≤ y → mem E y = false := fun y hy => mem_above fun q hq => by have := o3 q hq; omega
    cases now
    · have e : (if (false && !true) = true then E ++ [(s, 0)] ++ [(x', 0)] else if (!false && true) = true then setTo (E ++ [(s, 0)]) x' else E ++ [(s, 0)]) = E ++ [(s, x')] := by simp [setTo_last]
      rw [e]
      refine ⟨p2, q2, by simp at hl ⊢; omega, p1, q1, hn.symm, fun _ => ⟨sep_append.2 ⟨o2, by simp [Sep]; omega, fun q hq r hr => ?_⟩, fun q hq => ?_, fun y hy => ?_⟩, fun h => by cases h⟩
      · simp at hr; subst hr; exact o3 q hq
      · simp at hq; rcases hq with hq | rfl
        · have := o3 q hq; omega
        · simp
      · rw [mem_append]
        have e2 : mem [(s, x')] y = (decide (s ≤ y) && decide (y < x')) := by simp [mem, inR]
        rw [e2]
        rcases Int.lt_or_le x y with hc | hc
        · rcases Int.lt_or_le y x' with hd | hd
          · rw [between y hc hd]
            have : decide (s ≤ y) = true := by simp; omega
            simp [this, hd]
          · have : y = x' := by omega
            rw [this, atx, off x' (by omega)]; simp
        · rw [← o4 y hc]
          have : decide (y < x') = true := by simp; omega
          rw [this, Bool.and_true]
    · refine ⟨p2, q2, by simp at hl ⊢; omega, p1, q1, hn.symm, (fun h => by cases h), fun _ => ⟨E, s, rfl, by omega, o2, o3, fun y hy => ?_⟩⟩
      rcases Int.lt_or_le x y with hc | hc
      · have hsy : decide (s ≤ y) = true := by simp; omega
        rw [hsy, Bool.or_true]
        rcases Int.lt_or_le y x' with hd | hd
        · rw [between y hc hd]
        · have : y = x' := by omega
          rw [this, atx]
      · exact o4 y hc
/-- at the end the list is that of the set -/
theorem sinv_end (hf : f false false = false) (h : SInv f a b (2 * a.length) (2 * b.length) out opn x) : out = choose f a b := by
  have o1 : odd (2 * a.length) = false := by simp [odd]
  have o2 : odd (2 * b.length) = false := by simp [odd]
  have ho := h.ho
  rw [o1, o2, hf] at ho
  obtain ⟨c1, c2, c3⟩ := h.closed ho
  obtain ⟨d1, d2⟩ := choose_spec hf a b
  refine sep_ext c1 d1 fun y => ?_
  rw [d2]
  rcases Int.lt_or_le x y with hc | hc
  · rw [mem_above fun q hq => by have := c2 q hq; omega]
    have t1 : Split a (2 * a.length) y := ⟨fun k hk hk2 => by have := h.sa.1 k hk hk2; omega, fun k hk hk2 => by omega⟩
    have t2 : Split b (2 * b.length) y := ⟨fun k hk hk2 => by have := h.sb.1 k hk hk2; omega, fun k hk hk2 => by omega⟩
    rw [split_mem t1 (Nat.le_refl _), split_mem t2 (Nat.le_refl _), o1, o2, hf]
  · exact c3 y hc
end
end Runs
end Go.Proofs.YtneelidbgigehaaGreat
/- Regions as lists of rows of runs: validity and membership; with no program in sight. -/
namespace Go.Proofs.YtneelidbgigehaaGreat
set_option linter.unusedSimpArgs false
set_option linter.unusedVariables false
namespace Reg
open Runs
abbrev Row := Int × List Run
/-- a coordinate of a cell -/
def okC (x : Int) : Bool := decide (-4096 ≤ x ∧ x < 4096)
def inC (r : Run) : Bool := decide (-4096 ≤ r.1 ∧ r.2 ≤ 4096)
/-- the runs of a row of a region -/
def fine (l : List Run) : Bool := valid l && l.all inC && !l.isEmpty
def rstep (rows : List Row) (k : Nat) : Bool := match rows[k]? with
  | none => true
  | some w => okC w.1 && (k == 0 || (match rows[k - 1]? with | none => true | some v => decide (v.1 < w.1))) && fine w.2
def rvalidTo (rows : List Row) (k : Nat) : Bool := (List.range k).all (rstep rows)
def rvalid (rows : List Row) : Bool := rvalidTo rows rows.length
/-- what a valid region is -/
def VReg (rows : List Row) : Prop := (∀ w ∈ rows, okC w.1 = true ∧ fine w.2 = true) ∧ rows.Pairwise (fun v w => v.1 < w.1)
def memC (rows : List Row) (x y : Int) : Bool := rows.any (fun w => w.1 == y && mem w.2 x)
theorem rvalid_iff {rows : List Row} : rvalid rows = true ↔ VReg rows := by
  have step : ∀ k (hk : k < rows.length), rstep rows k = true ↔ (okC rows[k].1 = true ∧ fine rows[k].2 = true ∧ ∀ (h : 0 < k), rows[k-1].1 < rows[k].1) := by
    intro k hk
    have h1 : rows[k]? = some rows[k] := List.getElem?_eq_getElem hk
    have h2 : rows[k-1]? = some rows[k-1] := List.getElem?_eq_getElem (by omega)
    simp only [rstep, h1, h2, Bool.and_eq_true, Bool.or_eq_true, beq_iff_eq, decide_eq_true_eq]
    constructor
    · rintro ⟨⟨a, b⟩, c⟩; exact ⟨a, c, fun h => by rcases b with b | b; omega; exact b⟩
    · rintro ⟨a, c, b⟩; refine ⟨⟨a, ?_⟩, c⟩
      rcases Nat.eq_zero_or_pos k with h | h
      · exact .inl h
      · exact .inr (b h)
  have hall : rvalid rows = true ↔ ∀ k (hk : k < rows.length), (okC rows[k].1 = true ∧ fine rows[k].2 = true ∧ ∀ (h : 0 < k), rows[k-1].1 < rows[k].1) := by
    simp only [rvalid, rvalidTo, List.all_eq_true, List.mem_range]
    constructor
    · intro h k hk; exact (step k hk).1 (h k hk)
    · intro h k hk; exact (step k hk).2 (h k hk)
  rw [hall]
  constructor
  · intro h
    refine ⟨fun w hw => ?_, ?_⟩
    · obtain ⟨k, hk, rfl⟩ := List.getElem_of_mem hw; exact ⟨(h k hk).1, (h k hk).2.1⟩
    · rw [List.pairwise_iff_getElem]
      intro i j hi hj hij
      have : ∀ d i (hi : i < rows.length) (hj : i + 1 + d < rows.length), rows[i].1 < rows[i + 1 + d].1 := by
        intro d
        induction d with
        | zero => intro i hi hj; have := (h (i+1) hj).2.2 (by omega); simpa using this
        | succ d ih =>
          intro i hi hj
          have a := ih i hi (by omega)
          have c := (h (i + 1 + d + 1) (by omega)).2.2 (by omega)
          simp only [Nat.add_sub_cancel] at c
          have : rows[i + 1 + (d + 1)] = rows[i + 1 + d + 1] := rfl
          rw [this]; omega
      have := this (j - i - 1) i hi (by omega)
      have e : i + 1 + (j - i - 1) = j := by omega
      simpa [e] using this
  · rintro ⟨h1, h2⟩ k hk
    have := h1 _ (List.getElem_mem hk)
    exact ⟨this.1, this.2, fun h => (List.pairwise_iff_getElem.1 h2) (k-1) k (by omega) hk (by omega)⟩
theorem fine_iff {l : List Run} : fine l = true ↔ Sep l ∧ (∀ r ∈ l, -4096 ≤ r.1 ∧ r.2 ≤ 4096) ∧ l ≠ [] := by
  unfold fine
  simp only [Bool.and_eq_true, List.all_eq_true, Bool.not_eq_true', List.isEmpty_eq_false_iff]
  constructor
  · rintro ⟨⟨h1, h2⟩, h3⟩
    exact ⟨(valid_iff.1 h1).1, fun r hr => by have := h2 r hr; simpa [inC] using this, h3⟩
  · rintro ⟨h1, h2, h3⟩
    refine ⟨⟨valid_iff.2 ⟨h1, fun r hr => ?_⟩, fun r hr => by simpa [inC] using h2 r hr⟩, h3⟩
    have := h2 r hr
    have := h1.1 r hr
    simp [fits]; omega
/-- between the first and the last run -/
theorem sep_ends2 {l : List Run} (h : Sep l) {n : Nat} {r q x : Run} (hl : l.length = n + 1) (hr : l[0]? = some r) (hq : l[n]? = some q) (hx : x ∈ l) : r.1 ≤ x.1 ∧ x.2 ≤ q.2 ∧ x.1 < x.2 := by
  obtain ⟨i, hi, rfl⟩ := List.getElem_of_mem hx
  have hp := List.pairwise_iff_getElem.1 h.2
  have h1 := h.1 _ (List.getElem_mem hi)
  rw [List.getElem?_eq_getElem (by omega)] at hr hq
  injection hr with hr
  injection hq with hq
  subst hr hq
  have h2 := h.1 l[0] (List.getElem_mem _)
  have h3 := h.1 l[n] (List.getElem_mem _)
  refine ⟨?_, ?_, h1⟩
  · rcases Nat.eq_zero_or_pos i with h0 | h0
    · subst h0; exact Int.le_refl _
    · have := hp 0 i (by omega) hi h0; omega
  · rcases Nat.lt_or_ge i n with h0 | h0
    · have := hp i n hi (by omega) h0; omega
    · have : i = n := by omega
      subst this; exact Int.le_refl _
/-- fine, as the program asks it: by the first and the last run -/
theorem fine_ends {l : List Run} (hv : valid l = true) {n : Nat} {r q : Run} (hl : l.length = n + 1) (hr : l[0]? = some r) (hq : l[n]? = some q) : fine l = (okC r.1 && okC (q.2 - 1)) := by
  rw [Bool.eq_iff_iff, fine_iff]
  simp only [okC, Bool.and_eq_true, decide_eq_true_eq]
  have hs := (valid_iff.1 hv).1
  have hrm := List.mem_of_getElem? hr
  have hqm := List.mem_of_getElem? hq
  have h1 := hs.1 r hrm
  have h2 := hs.1 q hqm
  have h3 := sep_ends2 hs hl hr hq hrm
  constructor
  · rintro ⟨_, h, _⟩
    have := h r hrm
    have := h q hqm
    omega
  · rintro ⟨h5, h6⟩
    refine ⟨hs, fun x hx => ?_, fun h => by rw [h] at hl; simp at hl⟩
    have := sep_ends2 hs hl hr hq hx
    omega
theorem memC_iff {rows : List Row} {x y : Int} : memC rows x y = true ↔ ∃ w ∈ rows, w.1 = y ∧ mem w.2 x = true := by
  simp [memC, List.any_eq_true]
theorem memC_nil (x y : Int) : memC [] x y = false := rfl
theorem memC_cons (w : Row) (rows : List Row) (x y : Int) : memC (w :: rows) x y = ((w.1 == y && mem w.2 x) || memC rows x y) := rfl
theorem fine_some {l : List Run} (h : fine l = true) : ∃ x, mem l x = true := by
  obtain ⟨hs, _, hne⟩ := fine_iff.1 h
  match l, hne with
  | r :: l, _ => exact ⟨r.1, mem_iff.2 ⟨r, by simp, Int.le_refl _, hs.1 r (by simp)⟩⟩
theorem vreg_cons {w : Row} {rows : List Row} : VReg (w :: rows) ↔ okC w.1 = true ∧ fine w.2 = true ∧ (∀ v ∈ rows, w.1 < v.1) ∧ VReg rows := by
  simp only [VReg, List.mem_cons, List.pairwise_cons]
  constructor
  · rintro ⟨h1, h2, h3⟩; exact ⟨(h1 w (.inl rfl)).1, (h1 w (.inl rfl)).2, h2, fun v hv => h1 v (.inr hv), h3⟩
  · rintro ⟨h1, h2, h3, h4, h5⟩; exact ⟨fun v hv => by rcases hv with rfl | hv; exact ⟨h1, h2⟩; exact h4 v hv, h3, h5⟩
/-- a valid region is given by its cells -/
theorem vreg_ext : ∀ {a b : List Row}, VReg a → VReg b → (∀ x y, memC a x y = memC b x y) → a = b
  | [], [], _, _, _ => rfl
  | [], w :: b, _, hb, h => by
    obtain ⟨_, hf, _, _⟩ := vreg_cons.1 hb
    obtain ⟨x, hx⟩ := fine_some hf
    have := h x w.1
    rw [memC_nil, memC_cons] at this
    simp [hx] at this
  | w :: a, [], ha, _, h => by
    obtain ⟨_, hf, _, _⟩ := vreg_cons.1 ha
    obtain ⟨x, hx⟩ := fine_some hf
    have := h x w.1
    rw [memC_nil, memC_cons] at this
    simp [hx] at this
  | v :: a, w :: b, ha, hb, h => by
    obtain ⟨_, hfv, hva, ha'⟩ := vreg_cons.1 ha
    obtain ⟨_, hfw, hwb, hb'⟩ := vreg_cons.1 hb
    have low : ∀ {v : Row} {a : List Row}, (∀ u ∈ a, v.1 < u.1) → ∀ x y, memC (v :: a) x y = true → v.1 ≤ y := fun {v a} hv x y hm => by
      obtain ⟨u, hu, e, _⟩ := memC_iff.1 hm
      rcases List.mem_cons.1 hu with rfl | hu
      · omega
      · have := hv u hu; omega
    have e1 : v.1 = w.1 := by
      obtain ⟨x, hx⟩ := fine_some hfv
      obtain ⟨x', hx'⟩ := fine_some hfw
      have h1 := low hwb x v.1 (by rw [← h]; exact memC_iff.2 ⟨v, by simp, rfl, hx⟩)
      have h2 := low hva x' w.1 (by rw [h]; exact memC_iff.2 ⟨w, by simp, rfl, hx'⟩)
      omega
    have off : ∀ {v : Row} {a : List Row}, (∀ u ∈ a, v.1 < u.1) → ∀ x, memC (v :: a) x v.1 = mem v.2 x := fun {v a} hv x => by
      rw [memC_cons]
      have : memC a x v.1 = false := by
        rw [Bool.eq_false_iff]; intro hm
        obtain ⟨u, hu, e, _⟩ := memC_iff.1 hm
        have := hv u hu; omega
      simp [this]
    have e2 : v.2 = w.2 := sep_ext (fine_iff.1 hfv).1 (fine_iff.1 hfw).1 fun x => by
      rw [← off hva x, ← off hwb x, h x v.1, e1]
    have e : v = w := Prod.ext e1 e2
    subst e
    have : a = b := vreg_ext ha' hb' fun x y => by
      have hxy := h x y
      rw [memC_cons, memC_cons] at hxy
      by_cases hy : v.1 = y
      · have z : ∀ {c : List Row}, (∀ u ∈ c, v.1 < u.1) → memC c x y = false := fun {c} hc => by
          rw [Bool.eq_false_iff]; intro hm
          obtain ⟨u, hu, e, _⟩ := memC_iff.1 hm
          have := hc u hu; omega
        rw [z hva, z hwb]
      · have : (v.1 == y) = false := by simp [hy]
        simpa [this] using hxy
    rw [this]
end Reg
end Go.Proofs.YtneelidbgigehaaGreat
/- Set operations on regions; with no program in sight. -/
namespace Go.Proofs.YtneelidbgigehaaGreat
set_option linter.unusedSimpArgs false
set_option linter.unusedVariables false
namespace Reg
open Runs
/-- the runs of a row, none if there is no such row -/
def rwAt (rows : List Row) (y : Int) : List Run := ((rows.find? (fun w => w.1 == y)).map (·.2)).getD []
theorem rwAt_nil (y : Int) : rwAt [] y = [] := rfl
theorem rwAt_cons (w : Row) (rows : List Row) (y : Int) : rwAt (w :: rows) y = if w.1 = y then w.2 else rwAt rows y := by
  unfold rwAt
  by_cases h : w.1 = y <;> simp [List.find?_cons, h]
theorem rwAt_cases (rows : List Row) (y : Int) : (∃ w ∈ rows, w.1 = y ∧ rwAt rows y = w.2) ∨ ((∀ w ∈ rows, w.1 ≠ y) ∧ rwAt rows y = []) := by
  induction rows with
  | nil => right; exact ⟨by simp, rfl⟩
  | cons w rows ih =>
    rw [rwAt_cons]
    by_cases h : w.1 = y
    · left; exact ⟨w, by simp, h, by simp [h]⟩
    · rcases ih with ⟨v, hv, h1, h2⟩ | ⟨h1, h2⟩
      · left; exact ⟨v, by simp [hv], h1, by simp [h, h2]⟩
      · right; exact ⟨fun v hv => by rcases List.mem_cons.1 hv with rfl | hv; exact h; exact h1 v hv, by simp [h, h2]⟩
theorem memC_rwAt {rows : List Row} (h : VReg rows) (x y : Int) : memC rows x y = mem (rwAt rows y) x := by
  induction rows with
  | nil => rfl
  | cons w rows ih =>
    obtain ⟨_, _, hlt, h'⟩ := vreg_cons.1 h
    rw [memC_cons, rwAt_cons]
    by_cases hy : w.1 = y
    · have : memC rows x y = false := by
        rw [Bool.eq_false_iff]; intro hm
        obtain ⟨u, hu, e, _⟩ := memC_iff.1 hm
        have := hlt u hu; omega
      simp [hy, this]
    · simp [hy, ih h']
/-- runs that are apart and in range -/
def SepIn (l : List Run) : Prop := Sep l ∧ ∀ r ∈ l, -4096 ≤ r.1 ∧ r.2 ≤ 4096
theorem sepIn_nil : SepIn [] := ⟨sep_nil, by simp⟩
theorem fine_sepIn {l : List Run} : fine l = true ↔ SepIn l ∧ l ≠ [] := by rw [fine_iff, SepIn, and_assoc]
theorem rwAt_in {rows : List Row} (h : VReg rows) (y : Int) : SepIn (rwAt rows y) := by
  rcases rwAt_cases rows y with ⟨w, hw, _, e⟩ | ⟨_, e⟩
  · rw [e]; exact (fine_sepIn.1 (h.1 w hw).2).1
  · rw [e]; exact sepIn_nil
theorem sepIn_valid {l : List Run} (h : SepIn l) : valid l = true := valid_iff.2 ⟨h.1, fun r hr => by
  have := h.2 r hr
  have := h.1.1 r hr
  simp [fits]; omega⟩
theorem sepIn_mem {l : List Run} (h : SepIn l) {x : Int} (hx : mem l x = true) : -4096 ≤ x ∧ x < 4096 := by
  obtain ⟨r, hr, _, _⟩ := mem_iff.1 hx
  have := h.2 r hr
  omega
theorem sepIn_of_mem {l : List Run} (h : Sep l) (hm : ∀ x, mem l x = true → -4096 ≤ x ∧ x < 4096) : SepIn l := ⟨h, fun r hr => by
  have h1 := hm _ (sep_ends h hr).1
  have h2 := hm _ (sep_ends h hr).2
  omega⟩
/-- the rows y of ys with the runs g y, where there are any -/
def rowsOn (g : Int → List Run) (ys : List Int) : List Row := ys.filterMap fun y => if (g y).isEmpty then none else some (y, g y)
theorem rowsOn_snoc (g : Int → List Run) (ys : List Int) (y : Int) : rowsOn g (ys ++ [y]) = rowsOn g ys ++ (if (g y).isEmpty then [] else [(y, g y)]) := by
  unfold rowsOn
  rw [List.filterMap_append]
  congr 1
  by_cases h : g y = [] <;> simp [h]
theorem rowsOn_mem {g : Int → List Run} {ys : List Int} {w : Row} : w ∈ rowsOn g ys ↔ w.1 ∈ ys ∧ w.2 = g w.1 ∧ w.2 ≠ [] := by
  unfold rowsOn
  simp only [List.mem_filterMap]
  constructor
  · rintro ⟨y, hy, h⟩
    by_cases he : (g y).isEmpty
    · simp [he] at h
    · simp only [he] at h
      simp at h
      subst h
      exact ⟨hy, rfl, by simpa using he⟩
  · rintro ⟨h1, h2, h3⟩
    refine ⟨w.1, h1, ?_⟩
    rw [← h2]
    simp [h3]
theorem rowsOn_len (g : Int → List Run) (ys : List Int) : (rowsOn g ys).length ≤ ys.length := List.length_filterMap_le _ _
theorem rowsOn_vreg {g : Int → List Run} {ys : List Int} (hy : Asc ys) (hok : ∀ y ∈ ys, okC y = true) (hg : ∀ y ∈ ys, SepIn (g y)) : VReg (rowsOn g ys) := by
  refine ⟨fun w hw => ?_, ?_⟩
  · obtain ⟨h1, h2, h3⟩ := rowsOn_mem.1 hw
    exact ⟨hok _ h1, fine_sepIn.2 ⟨by rw [h2]; exact hg _ h1, h3⟩⟩
  · unfold rowsOn
    rw [List.pairwise_filterMap]
    refine hy.imp fun {a b} hab v hv w hw => ?_
    split at hv
    · cases hv
    split at hw
    · cases hw
    injection hv with hv
    injection hw with hw
    subst hv hw
    exact hab
theorem rowsOn_memC {g : Int → List Run} {ys : List Int} (x y : Int) : memC (rowsOn g ys) x y = (decide (y ∈ ys) && mem (g y) x) := by
  rw [Bool.eq_iff_iff, memC_iff]
  simp only [Bool.and_eq_true, decide_eq_true_eq]
  constructor
  · rintro ⟨w, hw, rfl, h⟩
    obtain ⟨h1, h2, _⟩ := rowsOn_mem.1 hw
    exact ⟨h1, by rw [← h2]; exact h⟩
  · rintro ⟨h1, h2⟩
    refine ⟨(y, g y), rowsOn_mem.2 ⟨h1, rfl, fun e => ?_⟩, rfl, h2⟩
    simp only at e
    rw [e] at h2; cases h2
/-- the numbers of a list, ascending, each once -/
def ysOf (l : List Int) : List Int := l.foldl ins []
theorem ysOf_spec (l : List Int) : Asc (ysOf l) ∧ ∀ y, y ∈ ysOf l ↔ y ∈ l := by
  have : ∀ (l b : List Int), Asc b → Asc (l.foldl ins b) ∧ ∀ y, y ∈ l.foldl ins b ↔ y ∈ b ∨ y ∈ l := by
    intro l
    induction l with
    | nil => intro b hb; exact ⟨hb, by simp⟩
    | cons x l ih =>
      intro b hb
      obtain ⟨h1, h2⟩ := ih (ins b x) (ins_asc hb)
      refine ⟨h1, fun y => ?_⟩
      rw [List.foldl_cons, h2, ins_mem]
      simp only [List.mem_cons]
      constructor
      · rintro ((h | h) | h)
        · exact .inr (.inl h)
        · exact .inl h
        · exact .inr (.inr h)
      · rintro (h | (h | h))
        · exact .inl (.inr h)
        · exact .inl (.inl h)
        · exact .inr h
  obtain ⟨h1, h2⟩ := this l [] List.Pairwise.nil
  exact ⟨h1, fun y => by rw [ysOf, h2]; simp⟩
/-- an operation on two regions -/
def rop (f : Bool → Bool → Bool) (a b : List Row) : List Row := if rvalid a && rvalid b then rowsOn (fun y => Runs.choose f (rwAt a y) (rwAt b y)) (ysOf (a.map (·.1) ++ b.map (·.1))) else []
theorem rop_bad {f : Bool → Bool → Bool} {a b : List Row} (h : (rvalid a && rvalid b) = false) : rop f a b = [] := by unfold rop; rw [h]; rfl
theorem choose_in {f : Bool → Bool → Bool} (hf : f false false = false) {a b : List Run} (ha : SepIn a) (hb : SepIn b) : SepIn (Runs.choose f a b) := by
  obtain ⟨h1, h2⟩ := choose_spec hf a b
  refine sepIn_of_mem h1 fun x hx => ?_
  rw [h2] at hx
  cases h3 : mem a x
  · cases h4 : mem b x
    · rw [h3, h4, hf] at hx; cases hx
    · exact sepIn_mem hb h4
  · exact sepIn_mem ha h3
theorem memC_y {rows : List Row} {x y : Int} (h : memC rows x y = true) : y ∈ rows.map (·.1) := by
  obtain ⟨w, hw, e, _⟩ := memC_iff.1 h
  exact List.mem_map.2 ⟨w, hw, e⟩
/-- rows built with the operation, for any list of the rows that there are -/
theorem rows_op {f : Bool → Bool → Bool} (hf : f false false = false) {a b : List Row} (ha : VReg a) (hb : VReg b) {ys : List Int} (h1 : Asc ys) (h2 : ∀ y, y ∈ ys ↔ y ∈ a.map (·.1) ++ b.map (·.1)) :
    VReg (rowsOn (fun y => Runs.choose f (rwAt a y) (rwAt b y)) ys) ∧ ∀ x y, memC (rowsOn (fun y => Runs.choose f (rwAt a y) (rwAt b y)) ys) x y = f (memC a x y) (memC b x y) := by
  refine ⟨rowsOn_vreg h1 (fun y hy => ?_) (fun y hy => choose_in hf (rwAt_in ha y) (rwAt_in hb y)), fun x y => ?_⟩
  · rcases List.mem_append.1 ((h2 y).1 hy) with h | h
    · obtain ⟨w, hw, rfl⟩ := List.mem_map.1 h; exact (ha.1 w hw).1
    · obtain ⟨w, hw, rfl⟩ := List.mem_map.1 h; exact (hb.1 w hw).1
  · rw [rowsOn_memC, (choose_spec hf _ _).2, ← memC_rwAt ha, ← memC_rwAt hb]
    by_cases hy : y ∈ ys
    · simp [hy]
    · have h3 : memC a x y = false := by
        rw [Bool.eq_false_iff]; intro h; exact hy ((h2 y).2 (List.mem_append_left _ (memC_y h)))
      have h4 : memC b x y = false := by
        rw [Bool.eq_false_iff]; intro h; exact hy ((h2 y).2 (List.mem_append_right _ (memC_y h)))
      simp [hy, h3, h4, hf]
theorem rop_spec {f : Bool → Bool → Bool} (hf : f false false = false) {a b : List Row} (ha : rvalid a = true) (hb : rvalid b = true) :
    VReg (rop f a b) ∧ ∀ x y, memC (rop f a b) x y = f (memC a x y) (memC b x y) := by
  unfold rop
  rw [ha, hb]
  simp only [Bool.and_self, if_true]
  exact rows_op hf (rvalid_iff.1 ha) (rvalid_iff.1 hb) (ysOf_spec _).1 (ysOf_spec _).2
theorem rop_eq {f : Bool → Bool → Bool} (hf : f false false = false) {a b : List Row} (ha : rvalid a = true) (hb : rvalid b = true) {r : List Row} (h1 : VReg r) (h2 : ∀ x y, memC r x y = f (memC a x y) (memC b x y)) : r = rop f a b :=
  vreg_ext h1 (rop_spec hf ha hb).1 fun x y => by rw [h2, (rop_spec hf ha hb).2]
theorem vreg_nil : VReg [] := ⟨by simp, List.Pairwise.nil⟩
theorem rvalid_nil : rvalid [] = true := rvalid_iff.2 vreg_nil
/-- how long runs in range can be -/
theorem sepIn_len {l : List Run} (h : SepIn l) : l.length ≤ 8192 := by
  have : ∀ (l : List Run) (lo : Int), SepIn l → lo ≤ 4096 → (∀ r ∈ l, lo ≤ r.1) → (l.length : Int) ≤ 4096 - lo := by
    intro l
    induction l with
    | nil => intro lo _ h _; simp; omega
    | cons r l ih =>
      intro lo h h0 hlo
      obtain ⟨h1, h2, h3⟩ := sep_cons.1 h.1
      have h4 := h.2 r (by simp)
      have h5 := hlo r (by simp)
      have := ih r.2 ⟨h3, fun q hq => h.2 q (by simp [hq])⟩ (by omega) (fun q hq => by have := h2 q hq; omega)
      simp only [List.length_cons]
      omega
  have := this l (-4096) h (by omega) (fun r hr => (h.2 r hr).1)
  omega
theorem asc_len {l : List Int} (h : Asc l) (hok : ∀ y ∈ l, okC y = true) : l.length ≤ 8192 := by
  have : ∀ (l : List Int) (lo : Int), Asc l → lo ≤ 4096 → (∀ y ∈ l, lo ≤ y ∧ y < 4096) → (l.length : Int) ≤ 4096 - lo := by
    intro l
    induction l with
    | nil => intro lo _ h _; simp; omega
    | cons y l ih =>
      intro lo h h0 hlo
      obtain ⟨h1, h2⟩ := List.pairwise_cons.1 h
      have h5 := hlo y (by simp)
      have := ih (y + 1) h2 (by omega) (fun z hz => ⟨by have := h1 z hz; omega, (hlo z (by simp [hz])).2⟩)
      simp only [List.length_cons]
      omega
  have := this l (-4096) h (by omega) (fun y hy => by have := hok y hy; simpa [okC] using this)
  omega
theorem vreg_len {rows : List Row} (h : VReg rows) : rows.length ≤ 8192 ∧ ∀ w ∈ rows, w.2.length ≤ 8192 := by
  refine ⟨?_, fun w hw => sepIn_len (fine_sepIn.1 (h.1 w hw).2).1⟩
  have := asc_len (l := rows.map (·.1)) (by unfold Asc; rw [List.pairwise_map]; exact h.2) (fun y hy => by
    obtain ⟨w, hw, rfl⟩ := List.mem_map.1 hy; exact (h.1 w hw).1)
  simpa using this
end Reg
end Go.Proofs.YtneelidbgigehaaGreat
/- Insertion sort in place, and a sweep over bounds that may repeat; with no program in sight. -/
namespace Go.Proofs.YtneelidbgigehaaGreat
set_option linter.unusedSimpArgs false
set_option linter.unusedVariables false
namespace Reg
open Runs
/-- the bounds of runs -/
def bl (l : List Run) : List Int := l.flatMap fun r => [r.1, r.2]
theorem bl_succ {l : List Run} {k : Nat} {r : Run} (h : l[k]? = some r) : bl (l.take (k + 1)) = bl (l.take k) ++ [r.1, r.2] := by unfold bl; rw [List.take_add_one, h]; simp
theorem bl_len (l : List Run) : (bl l).length = 2 * l.length := by
  induction l with
  | nil => rfl
  | cons r l ih => simp only [bl, List.flatMap_cons, List.length_append, List.length_cons] at *; simp at *; omega
theorem mem_bl {l : List Run} {x : Int} : x ∈ bl l ↔ ∃ r ∈ l, x = r.1 ∨ x = r.2 := by
  simp only [bl, List.mem_flatMap, List.mem_cons, List.not_mem_nil, or_false]
/-- sorted up to i -/
def SortTo (L : List Int) (i : Nat) : Prop := ∀ p q, p < q → q < i → at_ L p ≤ at_ L q
/-- sorted up to i but for the place k -/
def InsI (L : List Int) (i k : Nat) : Prop := ∀ p q, p < q → q ≤ i → q ≠ k → at_ L p ≤ at_ L q
theorem ins_start {L : List Int} {i : Nat} (h : SortTo L i) : InsI L i i := fun p q h1 h2 h3 => h p q h1 (by omega)
def swp (L : List Int) (k : Nat) : List Int := (L.set k (at_ L (k - 1))).set (k - 1) (at_ L k)
theorem at_set {L : List Int} {k j : Nat} {x : Int} (hk : k < L.length) : at_ (L.set k x) j = if j = k then x else at_ L j := by
  unfold at_
  by_cases h : j = k
  · subst h; simp [hk]
  · simp [h, List.getElem?_set_ne (Ne.symm h)]
theorem at_swp {L : List Int} {k j : Nat} (h0 : 0 < k) (hk : k < L.length) : at_ (swp L k) j = if j = k - 1 then at_ L k else if j = k then at_ L (k - 1) else at_ L j := by
  unfold swp
  rw [at_set (by simp; omega), at_set hk]
theorem swp_perm {L : List Int} {k : Nat} (h0 : 0 < k) (hk : k < L.length) : (swp L k).Perm L := by
  unfold swp
  rw [at_get hk, at_get (show k - 1 < L.length by omega)]
  exact List.set_set_perm (by omega) (by omega)
theorem ins_step {L : List Int} {i k : Nat} (h : InsI L i k) (h0 : 0 < k) (hk : k ≤ i) (hi : i < L.length) (hlt : at_ L k < at_ L (k - 1)) : InsI (swp L k) i (k - 1) := by
  intro p q h1 h2 h3
  rw [at_swp h0 (by omega), at_swp h0 (by omega)]
  rw [if_neg (show ¬ q = k - 1 from h3)]
  by_cases hqk : q = k
  · rw [if_pos hqk]
    by_cases hp : p = k - 1
    · rw [if_pos hp]; omega
    · rw [if_neg hp, if_neg (by omega)]
      exact h p (k - 1) (by omega) (by omega) (by omega)
  · rw [if_neg hqk]
    by_cases hp : p = k - 1
    · rw [if_pos hp]
      exact h k q (by omega) h2 hqk
    · rw [if_neg hp]
      by_cases hp2 : p = k
      · rw [if_pos hp2]; exact h (k - 1) q (by omega) h2 hqk
      · rw [if_neg hp2]; exact h p q h1 h2 hqk
theorem ins_done {L : List Int} {i k : Nat} (h : InsI L i k) (hk : k ≤ i) (hd : k = 0 ∨ at_ L (k - 1) ≤ at_ L k) : SortTo L (i + 1) := by
  intro p q h1 h2
  by_cases hq : q = k
  · subst hq
    rcases hd with hd | hd
    · omega
    · by_cases hp : p = q - 1
      · rw [hp]; exact hd
      · have := h p (q - 1) (by omega) (by omega) (by omega)
        omega
  · exact h p q h1 (by omega) hq
theorem sort_done {L : List Int} (h : SortTo L L.length) : L.Pairwise (· ≤ ·) := by
  rw [List.pairwise_iff_getElem]
  intro i j hi hj hij
  have := h i j hij hj
  rwa [at_get hi, at_get hj] at this
/-- one step of the sweep over bounds that may repeat -/
def dStep (P : Int → Bool) (out : List Run) (x y : Int) : List Run := if x = y then out else if P x then put out x y else out
def dTo (P : Int → Bool) (l : List Int) (k : Nat) : List Run := (List.range k).foldl (fun out i => dStep P out (at_ l i) (at_ l (i + 1))) []
theorem dTo_succ (P : Int → Bool) (l : List Int) (k : Nat) : dTo P l (k + 1) = dStep P (dTo P l k) (at_ l k) (at_ l (k + 1)) := by simp [dTo, List.range_succ]
theorem dStep_len (P : Int → Bool) (out : List Run) (x y : Int) : (dStep P out x y).length ≤ out.length + 1 := by
  unfold dStep
  split
  · omega
  · split
    · exact put_len _ _ _
    · omega
theorem dTo_len (P : Int → Bool) (l : List Int) (k : Nat) : (dTo P l k).length ≤ k := by
  induction k with
  | zero => simp [dTo]
  | succ k ih => rw [dTo_succ]; have := dStep_len P (dTo P l k) (at_ l k) (at_ l (k + 1)); omega
/-- without repetitions -/
def dd : List Int → List Int
  | [] => []
  | [x] => [x]
  | x :: y :: l => if x = y then dd (y :: l) else x :: dd (y :: l)
theorem dd_head (x : Int) (l : List Int) : ∃ m, dd (x :: l) = x :: m := by
  induction l generalizing x with
  | nil => exact ⟨[], rfl⟩
  | cons y l ih =>
    unfold dd
    split
    · rename_i h; subst h; exact ih x
    · exact ⟨_, rfl⟩
theorem dd_mem : ∀ (l : List Int) (x : Int), x ∈ dd l ↔ x ∈ l
  | [], x => Iff.rfl
  | [y], x => Iff.rfl
  | y :: z :: l, x => by
    unfold dd
    have ih := dd_mem (z :: l) x
    split
    · rename_i h; subst h; rw [ih]; simp
    · rw [List.mem_cons, ih, List.mem_cons (a := x) (b := y)]
theorem dd_asc : ∀ {l : List Int}, l.Pairwise (· ≤ ·) → Asc (dd l)
  | [], _ => List.Pairwise.nil
  | [y], _ => List.pairwise_singleton _ _
  | y :: z :: l, h => by
    obtain ⟨h1, h2⟩ := List.pairwise_cons.1 h
    have ih := dd_asc h2
    unfold dd
    split
    · exact ih
    · rename_i hne
      refine List.pairwise_cons.2 ⟨fun x hx => ?_, ih⟩
      rw [dd_mem] at hx
      have h3 := h1 z (by simp)
      rcases List.mem_cons.1 hx with rfl | hx
      · omega
      · have := (List.pairwise_cons.1 h2).1 x hx
        omega
def zf (P : Int → Bool) : List Run → List Int → List Run
  | out, x :: y :: l => zf P (dStep P out x y) (y :: l)
  | out, _ => out
theorem zf_dd (P : Int → Bool) : ∀ (l : List Int) (out : List Run), zf P out (dd l) = zf P out l
  | [], out => rfl
  | [x], out => rfl
  | x :: y :: l, out => by
    have ih := zf_dd P (y :: l)
    unfold dd
    split
    · rename_i h
      subst h
      rw [ih]
      conv => rhs; unfold zf
      simp [dStep]
    · rename_i h
      obtain ⟨m, hm⟩ := dd_head y l
      rw [hm]
      conv => lhs; unfold zf
      conv => rhs; unfold zf
      rw [← hm, ih]
theorem zf_fold (P : Int → Bool) : ∀ (l : List Int) (out : List Run), zf P out l = (List.range (l.length - 1)).foldl (fun out i => dStep P out (at_ l i) (at_ l (i + 1))) out
  | [], out => rfl
  | [x], out => rfl
  | x :: y :: l, out => by
    unfold zf
    rw [zf_fold P (y :: l)]
    have e : (x :: y :: l).length - 1 = ((y :: l).length - 1) + 1 := by simp
    rw [e, List.range_succ_eq_map, List.foldl_cons, List.foldl_map]
    rfl
theorem zf_dTo (P : Int → Bool) (l : List Int) : zf P [] l = dTo P l (l.length - 1) := zf_fold P l []
theorem dTo_asc {P : Int → Bool} {b : List Int} (hb : Asc b) (k : Nat) (hk : k + 1 ≤ b.length) : dTo P b k = swTo P b k := by
  induction k with
  | zero => rfl
  | succ k ih =>
    rw [dTo_succ, swTo_succ, ih (by omega)]
    have := asc_at hb (show k < k + 1 by omega) (show k + 1 < b.length by omega)
    unfold dStep swStep
    rw [if_neg (by omega)]
theorem asc_ext : ∀ {a b : List Int}, Asc a → Asc b → (∀ x, x ∈ a ↔ x ∈ b) → a = b
  | [], [], _, _, _ => rfl
  | [], y :: b, _, _, h => by have := (h y).2 (by simp); simp at this
  | x :: a, [], _, _, h => by have := (h x).1 (by simp); simp at this
  | x :: a, y :: b, ha, hb, h => by
    obtain ⟨h1, h2⟩ := List.pairwise_cons.1 ha
    obtain ⟨h3, h4⟩ := List.pairwise_cons.1 hb
    have e : x = y := by
      rcases List.mem_cons.1 ((h x).1 (by simp)) with h5 | h5
      · exact h5
      · rcases List.mem_cons.1 ((h y).2 (by simp)) with h6 | h6
        · exact h6.symm
        · have := h1 y h6; have := h3 x h5; omega
    subst e
    have : a = b := asc_ext h2 h4 fun z => by
      constructor
      · intro hz
        rcases List.mem_cons.1 ((h z).1 (by simp [hz])) with h5 | h5
        · have := h1 z hz; omega
        · exact h5
      · intro hz
        rcases List.mem_cons.1 ((h z).2 (by simp [hz])) with h5 | h5
        · have := h3 z hz; omega
        · exact h5
    rw [this]
/-- the sweep over the sorted bounds of two lists is the chapter's choice -/
theorem dTo_choose {f : Bool → Bool → Bool} {a b : List Run} {l : List Int} (ha : Sep a) (hb : Sep b) (hp : l.Perm (bl a ++ bl b)) (hs : l.Pairwise (· ≤ ·)) :
    dTo (fun x => f (mem a x) (mem b x)) l (l.length - 1) = Runs.choose f a b := by
  have e : dd l = bnds (a ++ b) := asc_ext (dd_asc hs) (bnds_spec _).1 fun x => by
    rw [dd_mem, hp.mem_iff, (bnds_spec _).2, List.mem_append, mem_bl, mem_bl]
    constructor
    · rintro (⟨r, hr, h⟩ | ⟨r, hr, h⟩)
      · exact ⟨r, List.mem_append_left _ hr, ha.1 r hr, h⟩
      · exact ⟨r, List.mem_append_right _ hr, hb.1 r hr, h⟩
    · rintro ⟨r, hr, _, h⟩
      rcases List.mem_append.1 hr with hr | hr
      · exact .inl ⟨r, hr, h⟩
      · exact .inr ⟨r, hr, h⟩
  rw [← zf_dTo, ← zf_dd, e, zf_dTo]
  unfold Runs.choose sw
  rcases Nat.eq_zero_or_pos (bnds (a ++ b)).length with h0 | h0
  · rw [h0]; rfl
  · exact dTo_asc (bnds_spec _).1 _ (by omega)
end Reg
end Go.Proofs.YtneelidbgigehaaGreat

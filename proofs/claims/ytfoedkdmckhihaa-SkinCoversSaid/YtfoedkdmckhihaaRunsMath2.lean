/- Plain facts on the chapter's definitions for runs: bounds, Normal, the set operations; with no program in sight. -/
import Derived.Test.YtfoedkdmckhihaaRunsMath
namespace Go.Proofs.Ytfoedkdmckhihaa
set_option linter.unusedSimpArgs false
set_option linter.unusedVariables false
namespace Runs
/-- the chapter's insert -/
def ins : List Int → Int → List Int
  | [], x => [x]
  | y :: l, x => if x ≤ y then (if x < y then x :: y :: l else y :: l) else y :: ins l x
def istep (x : Int) (s : List Int × Bool) (y : Int) : List Int × Bool :=
  if s.2 = false ∧ x ≤ y then (if x < y then s.1 ++ [x] ++ [y] else s.1 ++ [y], true) else (s.1 ++ [y], s.2)
def insTo (l : List Int) (x : Int) (k : Nat) : List Int × Bool := (l.take k).foldl (istep x) ([], false)
theorem insTo_succ {l : List Int} {x y : Int} {k : Nat} (h : l[k]? = some y) : insTo l x (k + 1) = istep x (insTo l x k) y := by
  unfold insTo
  rw [List.take_add_one, h, List.foldl_append]; rfl
theorem istep_true (x : Int) : ∀ (l out : List Int), l.foldl (istep x) (out, true) = (out ++ l, true)
  | [], out => by simp
  | y :: l, out => by simp [istep, istep_true x l]
theorem istep_false (x : Int) : ∀ (l out : List Int), (let s := l.foldl (istep x) (out, false); if s.2 then s.1 else s.1 ++ [x]) = out ++ ins l x
  | [], out => by simp [ins]
  | y :: l, out => by
    simp only [List.foldl_cons, istep, ins, true_and]
    by_cases h : x ≤ y
    · by_cases h2 : x < y <;> simp [h, h2, istep_true]
    · have := istep_false x l (out ++ [y])
      simp only [h, if_false]
      simpa using this
theorem ins_eq (l : List Int) (x : Int) : (if (insTo l x l.length).2 then (insTo l x l.length).1 else (insTo l x l.length).1 ++ [x]) = ins l x := by
  have := istep_false x l []
  unfold insTo
  rw [List.take_length]
  simpa using this
theorem insTo_len (l : List Int) (x : Int) (k : Nat) (hk : k ≤ l.length) : (insTo l x k).1.length ≤ k + 1 ∧ ((insTo l x k).2 = false → (insTo l x k).1.length ≤ k) := by
  induction k with
  | zero => simp [insTo]
  | succ k ih =>
    have hl : l[k]? = some l[k] := List.getElem?_eq_getElem (by omega)
    rw [insTo_succ hl]
    have := ih (by omega)
    unfold istep
    generalize insTo l x k = s at this ⊢
    obtain ⟨a, b⟩ := s
    simp only at this
    cases b
    · simp only [true_and]
      have h2 := this.2 rfl
      split
      · split <;> simp <;> omega
      · simp; omega
    · simp; omega
theorem ins_len (l : List Int) (x : Int) : (ins l x).length ≤ l.length + 1 := by
  induction l with
  | nil => simp [ins]
  | cons y l ih => simp only [ins]; split <;> (try split) <;> simp <;> omega
theorem ins_mem (l : List Int) (x y : Int) : y ∈ ins l x ↔ y = x ∨ y ∈ l := by
  induction l with
  | nil => simp [ins]
  | cons z l ih =>
    simp only [ins]
    split
    · split
      · simp
      · have : x = z := by omega
        subst this; simp
    · simp [ih]; grind
def Asc (l : List Int) : Prop := l.Pairwise (· < ·)
theorem ins_asc {l : List Int} {x : Int} (h : Asc l) : Asc (ins l x) := by
  induction l with
  | nil => simp [ins, Asc]
  | cons z l ih =>
    obtain ⟨h1, h2⟩ := List.pairwise_cons.1 h
    simp only [ins]
    split
    · split
      · refine List.pairwise_cons.2 ⟨fun a ha => ?_, h⟩
        rcases List.mem_cons.1 ha with rfl | ha
        · omega
        · have := h1 a ha; omega
      · exact h
    · refine List.pairwise_cons.2 ⟨fun a ha => ?_, ih h2⟩
      rcases (ins_mem l x a).1 ha with rfl | ha
      · omega
      · exact h1 a ha
def bstep (b : List Int) (r : Run) : List Int := if r.1 < r.2 then ins (ins b r.1) r.2 else b
def bndsTo (l : List Run) (k : Nat) : List Int := (l.take k).foldl bstep []
def bnds (l : List Run) : List Int := l.foldl bstep []
theorem bndsTo_succ {l : List Run} {r : Run} {k : Nat} (h : l[k]? = some r) : bndsTo l (k + 1) = bstep (bndsTo l k) r := by
  unfold bndsTo
  rw [List.take_add_one, h, List.foldl_append]; rfl
theorem bndsTo_all (l : List Run) : bndsTo l l.length = bnds l := by unfold bndsTo bnds; rw [List.take_length]
theorem bstep_len (b : List Int) (r : Run) : (bstep b r).length ≤ b.length + 2 := by
  unfold bstep; split
  · have := ins_len b r.1; have := ins_len (ins b r.1) r.2; omega
  · omega
theorem bndsTo_len (l : List Run) (k : Nat) (hk : k ≤ l.length) : (bndsTo l k).length ≤ 2 * k := by
  induction k with
  | zero => simp [bndsTo]
  | succ k ih =>
    have hl : l[k]? = some l[k] := List.getElem?_eq_getElem (by omega)
    rw [bndsTo_succ hl]
    have := ih (by omega)
    have := bstep_len (bndsTo l k) l[k]
    omega
theorem bnds_len (l : List Run) : (bnds l).length ≤ 2 * l.length := by rw [← bndsTo_all]; exact bndsTo_len l _ (Nat.le_refl _)
theorem bnds_spec (l : List Run) : Asc (bnds l) ∧ ∀ x, x ∈ bnds l ↔ ∃ r ∈ l, r.1 < r.2 ∧ (x = r.1 ∨ x = r.2) := by
  have key : ∀ (l : List Run) (b : List Int), Asc b → Asc (l.foldl bstep b) ∧ ∀ x, x ∈ l.foldl bstep b ↔ x ∈ b ∨ ∃ r ∈ l, r.1 < r.2 ∧ (x = r.1 ∨ x = r.2) := by
    intro l
    induction l with
    | nil => intro b hb; simp [hb]
    | cons r l ih =>
      intro b hb
      have hb' : Asc (bstep b r) := by unfold bstep; split; exact ins_asc (ins_asc hb); exact hb
      obtain ⟨h1, h2⟩ := ih (bstep b r) hb'
      refine ⟨h1, fun x => ?_⟩
      rw [List.foldl_cons, h2]
      have hm : x ∈ bstep b r ↔ x ∈ b ∨ (r.1 < r.2 ∧ (x = r.1 ∨ x = r.2)) := by
        unfold bstep; split
        · rw [ins_mem, ins_mem]; grind
        · grind
      rw [hm]; simp; grind
  have := key l [] (by simp [Asc])
  exact ⟨this.1, fun x => by rw [bnds, this.2]; simp⟩
/-- the chapter's put -/
def put (l : List Run) (a b : Int) : List Run := match l.getLast? with
  | some q => if q.2 = a then l.dropLast ++ [(q.1, b)] else l ++ [(a, b)]
  | none => l ++ [(a, b)]
theorem put_nil (a b : Int) : put [] a b = [(a, b)] := rfl
theorem put_yes {E : List Run} {q : Run} {b : Int} : put (E ++ [q]) q.2 b = E ++ [(q.1, b)] := by simp [put]
theorem put_no {E : List Run} {q : Run} {a b : Int} (h : q.2 ≠ a) : put (E ++ [q]) a b = E ++ [q] ++ [(a, b)] := by simp [put, h]
theorem put_len (l : List Run) (a b : Int) : (put l a b).length ≤ l.length + 1 := by
  rcases List.eq_nil_or_concat l with rfl | ⟨E, q, rfl⟩
  · simp [put]
  · rw [List.concat_eq_append]
    by_cases h : q.2 = a
    · subst h; rw [put_yes]; simp
    · rw [put_no h]; simp
def at_ (b : List Int) (i : Nat) : Int := b[i]?.getD 0
def swStep (P : Int → Bool) (b : List Int) (out : List Run) (i : Nat) : List Run := if P (at_ b i) then put out (at_ b i) (at_ b (i + 1)) else out
def swTo (P : Int → Bool) (b : List Int) (k : Nat) : List Run := (List.range k).foldl (swStep P b) []
/-- the runs between the numbers of b at which P holds -/
def sw (P : Int → Bool) (b : List Int) : List Run := swTo P b (b.length - 1)
theorem swTo_succ (P : Int → Bool) (b : List Int) (k : Nat) : swTo P b (k + 1) = swStep P b (swTo P b k) k := by
  unfold swTo; rw [List.range_succ, List.foldl_append]; rfl
theorem swTo_len (P : Int → Bool) (b : List Int) (k : Nat) : (swTo P b k).length ≤ k := by
  induction k with
  | zero => simp [swTo]
  | succ k ih =>
    rw [swTo_succ]; unfold swStep
    split
    · have := put_len (swTo P b k) (at_ b k) (at_ b (k + 1)); omega
    · omega
theorem at_get {b : List Int} {i : Nat} (h : i < b.length) : at_ b i = b[i] := by simp [at_, h]
theorem asc_at {b : List Int} (h : Asc b) {i j : Nat} (hij : i < j) (hj : j < b.length) : at_ b i < at_ b j := by
  rw [at_get (by omega), at_get hj]
  exact (List.pairwise_iff_getElem.1 h) i j (by omega) hj hij
theorem swTo_spec {P : Int → Bool} {b : List Int} (hb : Asc b) : ∀ k, k + 1 ≤ b.length →
    Sep (swTo P b k) ∧ (∀ q ∈ swTo P b k, q.2 ≤ at_ b k) ∧ ∀ x, mem (swTo P b k) x = true ↔ ∃ i, i < k ∧ at_ b i ≤ x ∧ x < at_ b (i + 1) ∧ P (at_ b i) = true := by
  intro k
  induction k with
  | zero => intro _; simp [swTo, sep_nil, mem]
  | succ k ih =>
    intro hk
    obtain ⟨s1, s2, s3⟩ := ih (by omega)
    have hlt := asc_at hb (i := k) (j := k + 1) (by omega) (by omega)
    rw [swTo_succ]
    unfold swStep
    split
    · rename_i hP
      have hmem : ∀ x, (mem (swTo P b k) x = true ∨ (at_ b k ≤ x ∧ x < at_ b (k + 1))) ↔ ∃ i, i < k + 1 ∧ at_ b i ≤ x ∧ x < at_ b (i + 1) ∧ P (at_ b i) = true := by
        intro x
        rw [s3]
        constructor
        · rintro (⟨i, h1, h2⟩ | h)
          · exact ⟨i, by omega, h2⟩
          · exact ⟨k, by omega, h.1, h.2, hP⟩
        · rintro ⟨i, h1, h2, h3, h4⟩
          rcases Nat.lt_succ_iff_lt_or_eq.1 h1 with h | rfl
          · exact .inl ⟨i, h, h2, h3, h4⟩
          · exact .inr ⟨h2, h3⟩
      rcases List.eq_nil_or_concat (swTo P b k) with hE | ⟨E, q, hE⟩
      · rw [hE] at s1 s2 s3 hmem ⊢
        rw [put_nil]
        refine ⟨by simp [Sep, hlt], by simp, fun x => ?_⟩
        rw [← hmem]; simp [mem, inR]
      · rw [List.concat_eq_append] at hE
        rw [hE] at s1 s2 s3 hmem ⊢
        obtain ⟨t1, t2, t3⟩ := sep_append.1 s1
        have hq := t2.1 q (by simp)
        have hq2 := s2 q (by simp)
        by_cases h : q.2 = at_ b k
        · have e : put (E ++ [q]) (at_ b k) (at_ b (k + 1)) = E ++ [(q.1, at_ b (k + 1))] := by rw [← h, put_yes]
          rw [e]
          refine ⟨sep_append.2 ⟨t1, by simp [Sep]; omega, fun a ha r hr => ?_⟩, fun a ha => ?_, fun x => ?_⟩
          · simp at hr; subst hr; exact t3 a ha q (by simp)
          · simp at ha; rcases ha with ha | rfl
            · have := s2 a (by simp [ha]); omega
            · simp
          · rw [← hmem, mem_append, mem_append]; simp [mem, inR]; grind
        · rw [put_no h]
          refine ⟨sep_append.2 ⟨s1, by simp [Sep, hlt], fun a ha r hr => ?_⟩, fun a ha => ?_, fun x => ?_⟩
          · simp at hr; subst hr
            rcases List.mem_append.1 ha with ha | ha
            · have := t3 a ha q (by simp); omega
            · simp at ha; subst ha; simp; omega
          · simp at ha; rcases ha with ha | rfl | rfl
            · have := s2 a (by simp [ha]); omega
            · omega
            · simp
          · rw [← hmem, mem_append (E ++ [q])]; simp [mem, inR]
    · rename_i hP
      refine ⟨s1, fun q hq => by have := s2 q hq; omega, fun x => ?_⟩
      rw [s3]
      constructor
      · rintro ⟨i, h1, h2⟩; exact ⟨i, by omega, h2⟩
      · rintro ⟨i, h1, h2, h3, h4⟩
        rcases Nat.lt_succ_iff_lt_or_eq.1 h1 with h | rfl
        · exact ⟨i, h, h2, h3, h4⟩
        · exact absurd h4 hP
/-- where P is constant between the numbers of b and false beyond them, the runs are the set P -/
theorem sw_spec {P : Int → Bool} {b : List Int} (hb : Asc b) (hc : ∀ c d x, c ∈ b → d ∈ b → (∀ e ∈ b, e ≤ c ∨ d ≤ e) → c ≤ x → x < d → P x = P c)
    (h0 : ∀ x, (∀ e ∈ b, x < e) → P x = false) (h1 : ∀ x, (∀ e ∈ b, e ≤ x) → P x = false) : Sep (sw P b) ∧ ∀ x, mem (sw P b) x = P x := by
  by_cases hn : b.length = 0
  · have : b = [] := List.eq_nil_of_length_eq_zero hn
    subst this
    refine ⟨sep_nil, fun x => ?_⟩
    rw [h0 x (by simp)]; rfl
  obtain ⟨s1, s2, s3⟩ := swTo_spec (P := P) hb (b.length - 1) (by omega)
  refine ⟨s1, fun x => ?_⟩
  rw [Bool.eq_iff_iff]
  show mem (swTo P b (b.length - 1)) x = true ↔ _
  rw [s3]
  have hmem : ∀ i, i < b.length → at_ b i ∈ b := fun i hi => by rw [at_get hi]; exact List.getElem_mem hi
  have hgap : ∀ i, i + 1 < b.length → ∀ e ∈ b, e ≤ at_ b i ∨ at_ b (i + 1) ≤ e := by
    intro i hi e he
    obtain ⟨j, hj, rfl⟩ := List.getElem_of_mem he
    rw [← at_get hj]
    rcases Nat.lt_or_ge i j with h | h
    · rcases Nat.eq_or_lt_of_le h with h' | h'
      · right; rw [← h']; exact Int.le_refl _
      · right; have : at_ b (i + 1) < at_ b j := asc_at hb h' hj; omega
    · rcases Nat.eq_or_lt_of_le h with h' | h'
      · left; rw [h']; exact Int.le_refl _
      · left; have := asc_at hb h' (by omega); omega
  constructor
  · rintro ⟨i, h2, h3, h4, h5⟩
    rw [hc (at_ b i) (at_ b (i + 1)) x (hmem _ (by omega)) (hmem _ (by omega)) (hgap i (by omega)) h3 h4]; exact h5
  · intro hx
    have hlo : at_ b 0 ≤ x := by
      rcases Int.lt_or_le x (at_ b 0) with h | h
      · rw [h0 x (fun e he => ?_)] at hx
        · cases hx
        · obtain ⟨j, hj, rfl⟩ := List.getElem_of_mem he
          rw [← at_get hj]
          rcases Nat.eq_zero_or_pos j with rfl | h'
          · exact h
          · have := asc_at hb h' hj; omega
      · exact h
    have hhi : x < at_ b (b.length - 1) := by
      rcases Int.lt_or_le x (at_ b (b.length - 1)) with h | h
      · exact h
      · rw [h1 x (fun e he => ?_)] at hx
        · cases hx
        · obtain ⟨j, hj, rfl⟩ := List.getElem_of_mem he
          rw [← at_get hj]
          rcases Nat.eq_or_lt_of_le (Nat.le_sub_one_of_lt hj) with h' | h'
          · rw [h']; exact h
          · have := asc_at hb h' (by omega); omega
    have find : ∀ k, k < b.length → x < at_ b k → ∃ i, i < k ∧ at_ b i ≤ x ∧ x < at_ b (i + 1) := by
      intro k
      induction k with
      | zero => intro _ h; omega
      | succ k ih =>
        intro hk hlt
        rcases Int.lt_or_le x (at_ b k) with h | h
        · obtain ⟨i, h2, h3⟩ := ih (by omega) h; exact ⟨i, by omega, h3⟩
        · exact ⟨k, by omega, h, hlt⟩
    obtain ⟨i, h2, h3, h4⟩ := find _ (by omega) hhi
    refine ⟨i, h2, h3, h4, ?_⟩
    rw [← hc (at_ b i) (at_ b (i + 1)) x (hmem _ (by omega)) (hmem _ (by omega)) (hgap i (by omega)) h3 h4]; exact hx
/-- membership changes only at bounds -/
theorem mem_const {l : List Run} {b : List Int} (hl : ∀ r ∈ l, r.1 < r.2 → r.1 ∈ b ∧ r.2 ∈ b) {c d x : Int} (hg : ∀ e ∈ b, e ≤ c ∨ d ≤ e) (h1 : c ≤ x) (h2 : x < d) : mem l x = mem l c := by
  rw [Bool.eq_iff_iff, mem_iff, mem_iff]
  constructor
  · rintro ⟨r, hr, h3, h4⟩
    have := hg r.1 (hl r hr (by omega)).1
    exact ⟨r, hr, by omega, by omega⟩
  · rintro ⟨r, hr, h3, h4⟩
    have := hg r.2 (hl r hr (by omega)).2
    exact ⟨r, hr, by omega, by omega⟩
theorem mem_lo {l : List Run} {b : List Int} (hl : ∀ r ∈ l, r.1 < r.2 → r.1 ∈ b ∧ r.2 ∈ b) {x : Int} (h : ∀ e ∈ b, x < e) : mem l x = false := by
  rw [Bool.eq_false_iff]; intro hm
  obtain ⟨r, hr, h3, h4⟩ := mem_iff.1 hm
  have := h r.1 (hl r hr (by omega)).1; omega
theorem mem_hi {l : List Run} {b : List Int} (hl : ∀ r ∈ l, r.1 < r.2 → r.1 ∈ b ∧ r.2 ∈ b) {x : Int} (h : ∀ e ∈ b, e ≤ x) : mem l x = false := by
  rw [Bool.eq_false_iff]; intro hm
  obtain ⟨r, hr, h3, h4⟩ := mem_iff.1 hm
  have := h r.2 (hl r hr (by omega)).2; omega
/-- the chapter's Normal -/
def normal (l : List Run) : List Run := sw (mem l) (bnds l)
theorem normal_spec (l : List Run) : Sep (normal l) ∧ ∀ x, mem (normal l) x = mem l x := by
  obtain ⟨h1, h2⟩ := bnds_spec l
  have hl : ∀ r ∈ l, r.1 < r.2 → r.1 ∈ bnds l ∧ r.2 ∈ bnds l := fun r hr h => ⟨(h2 _).2 ⟨r, hr, h, .inl rfl⟩, (h2 _).2 ⟨r, hr, h, .inr rfl⟩⟩
  exact sw_spec h1 (fun c d x _ _ hg a b => mem_const hl hg a b) (fun x h => mem_lo hl h) (fun x h => mem_hi hl h)
/-- the chapter's choose, for lists of any kind -/
def choose (f : Bool → Bool → Bool) (a b : List Run) : List Run := sw (fun x => f (mem a x) (mem b x)) (bnds (a ++ b))
theorem choose_spec {f : Bool → Bool → Bool} (hf : f false false = false) (a b : List Run) : Sep (choose f a b) ∧ ∀ x, mem (choose f a b) x = f (mem a x) (mem b x) := by
  obtain ⟨h1, h2⟩ := bnds_spec (a ++ b)
  have ha : ∀ r ∈ a, r.1 < r.2 → r.1 ∈ bnds (a ++ b) ∧ r.2 ∈ bnds (a ++ b) := fun r hr h => ⟨(h2 _).2 ⟨r, by simp [hr], h, .inl rfl⟩, (h2 _).2 ⟨r, by simp [hr], h, .inr rfl⟩⟩
  have hb : ∀ r ∈ b, r.1 < r.2 → r.1 ∈ bnds (a ++ b) ∧ r.2 ∈ bnds (a ++ b) := fun r hr h => ⟨(h2 _).2 ⟨r, by simp [hr], h, .inl rfl⟩, (h2 _).2 ⟨r, by simp [hr], h, .inr rfl⟩⟩
  exact sw_spec h1 (fun c d x _ _ hg u v => by rw [mem_const ha hg u v, mem_const hb hg u v]) (fun x h => by rw [mem_lo ha h, mem_lo hb h, hf]) (fun x h => by rw [mem_hi ha h, mem_hi hb h, hf])
/-- a set operation: nothing if a list is not valid -/
def setop (f : Bool → Bool → Bool) (a b : List Run) : List Run := if valid a && valid b then choose f a b else []
theorem choose_len (f : Bool → Bool → Bool) (a b : List Run) : (choose f a b).length ≤ 2 * (a.length + b.length) := by
  unfold choose sw
  have := swTo_len (fun x => f (mem a x) (mem b x)) (bnds (a ++ b)) ((bnds (a ++ b)).length - 1)
  have := bnds_len (a ++ b)
  simp at this
  omega
theorem normal_len (l : List Run) : (normal l).length ≤ 2 * l.length := by
  unfold normal sw
  have := swTo_len (mem l) (bnds l) ((bnds l).length - 1)
  have := bnds_len l
  omega
/-- the two bounds of a run of a list of a set are a member and no member, next to each other -/
theorem sep_ends {l : List Run} (h : Sep l) {r : Run} (hr : r ∈ l) : mem l r.1 = true ∧ mem l (r.2 - 1) = true := by
  have := h.1 r hr
  exact ⟨mem_iff.2 ⟨r, hr, by omega, by omega⟩, mem_iff.2 ⟨r, hr, by omega, by omega⟩⟩
theorem fit_mem {l : List Run} (h : Fit l) {x : Int} (hx : mem l x = true) : -1048576 ≤ x ∧ x < 1048576 := by
  obtain ⟨r, hr, h1, h2⟩ := mem_iff.1 hx
  have := h r hr
  simp [fits] at this
  omega
theorem fit_of_mem {l : List Run} (h : Sep l) (hm : ∀ x, mem l x = true → -1048576 ≤ x ∧ x < 1048576) : Fit l := by
  intro r hr
  obtain ⟨h1, h2⟩ := sep_ends h hr
  have := hm _ h1
  have := hm _ h2
  have := h.1 r hr
  simp [fits]; omega
theorem valid_choose {f : Bool → Bool → Bool} (hf : f false false = false) {a b : List Run} (ha : valid a = true) (hb : valid b = true) : valid (choose f a b) = true := by
  obtain ⟨h1, h2⟩ := choose_spec hf a b
  refine valid_iff.2 ⟨h1, fit_of_mem h1 fun x hx => ?_⟩
  rw [h2] at hx
  cases ma : mem a x
  · cases mb : mem b x
    · rw [ma, mb, hf] at hx; cases hx
    · exact fit_mem (valid_iff.1 hb).2 mb
  · exact fit_mem (valid_iff.1 ha).2 ma
end Runs
end Go.Proofs.Ytfoedkdmckhihaa

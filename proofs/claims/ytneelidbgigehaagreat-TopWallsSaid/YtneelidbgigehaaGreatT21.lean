/- Lemmas: TrkMath WlkM. -/
import Derived.Test.YtneelidbgigehaaGreatT01
import Derived.Test.YtneelidbgigehaaGreatT20
/- Tracks: plain laws. -/
namespace Go.Proofs.YtneelidbgigehaaGreat
set_option linter.unusedSimpArgs false
set_option linter.unusedVariables false
namespace Trk
abbrev Cl := Int × Int
/-- a track: its role, whether it is closed, its cells -/
abbrev Tr := (Int × Bool) × List Cl
def okc (c : Cl) : Bool := decide (-4096 ≤ c.1 ∧ c.1 < 4096) && decide (-4096 ≤ c.2 ∧ c.2 < 4096)
theorem okc_iff {c : Cl} : okc c = true ↔ (-4096 ≤ c.1 ∧ c.1 < 4096) ∧ (-4096 ≤ c.2 ∧ c.2 < 4096) := by simp [okc]
def nb (a b : Cl) : Bool := decide ((a.1 - b.1) * (a.1 - b.1) + (a.2 - b.2) * (a.2 - b.2) = 1)
/-- cells on the grid, each a neighbor of the one before it -/
def stepOk : List Cl → Bool
  | [] => true
  | c :: r => okc c && (match r with | [] => true | d :: _ => nb c d) && stepOk r
def endsOk (l : List Cl) : Bool := match l.getLast?, l.head? with | some a, some b => nb a b | _, _ => false
def tval (t : Tr) : Bool := decide (1 ≤ t.1.1 ∧ t.1.1 ≤ 7 ∧ 1 ≤ t.2.length ∧ t.2.length ≤ 65536) && stepOk t.2 && (!t.1.2 || decide (t.2.length = 1) || endsOk t.2)
theorem stepOk_iff : ∀ {l : List Cl}, stepOk l = true ↔ ∀ i c, l[i]? = some c → okc c = true ∧ ∀ d, l[i + 1]? = some d → nb c d = true
  | [] => by simp [stepOk]
  | [c] => by
    simp only [stepOk, Bool.and_true]
    constructor
    · intro h i x hx
      match i, hx with
      | 0, hx => simp at hx; subst hx; exact ⟨h, fun d hd => by simp at hd⟩
      | i + 1, hx => simp at hx
    · intro h; exact (h 0 c rfl).1
  | c :: e :: r => by
    have ih := stepOk_iff (l := e :: r)
    unfold stepOk
    rw [Bool.and_eq_true, Bool.and_eq_true, ih]
    constructor
    · rintro ⟨⟨h1, h2⟩, h3⟩ i x hx
      match i, hx with
      | 0, hx =>
        simp at hx; subst hx
        exact ⟨h1, fun d hd => by simp at hd; subst hd; exact h2⟩
      | i + 1, hx => exact h3 i x (by simpa using hx)
    · intro h
      exact ⟨⟨(h 0 c rfl).1, (h 0 c rfl).2 e rfl⟩, fun i x hx => h (i + 1) x (by simpa using hx)⟩
/-- the loop's knowledge: the first k cells are fine -/
def okTo (l : List Cl) (k : Nat) : Prop := ∀ i < k, ∀ c, l[i]? = some c → okc c = true ∧ ∀ d, 0 < i → l[i - 1]? = some d → nb d c = true
theorem okTo_succ {l : List Cl} {k : Nat} {c : Cl} (h : okTo l k) (hc : l[k]? = some c) (h1 : okc c = true) (h2 : ∀ d, 0 < k → l[k - 1]? = some d → nb d c = true) : okTo l (k + 1) := by
  intro i hi x hx
  by_cases e : i = k
  · subst e; rw [hc] at hx; injection hx with hx; subst hx; exact ⟨h1, h2⟩
  · exact h i (by omega) x hx
theorem okTo_all {l : List Cl} : okTo l l.length ↔ stepOk l = true := by
  rw [stepOk_iff]
  constructor
  · intro h i c hc
    have hi := (List.getElem?_eq_some_iff.1 hc).1
    refine ⟨(h i hi c hc).1, fun d hd => ?_⟩
    have hi2 := (List.getElem?_eq_some_iff.1 hd).1
    exact (h (i + 1) hi2 d hd).2 c (by omega) (by simpa using hc)
  · intro h i hi c hc
    refine ⟨(h i c hc).1, fun d h0 hd => ?_⟩
    exact (h (i - 1) d hd).2 c (by rw [show i - 1 + 1 = i by omega]; exact hc)
theorem stepOk_bad1 {l : List Cl} {i : Nat} {c : Cl} (hc : l[i]? = some c) (h : okc c = false) : stepOk l = false := by
  cases hs : stepOk l
  · rfl
  · rw [(stepOk_iff.1 hs i c hc).1] at h; cases h
theorem stepOk_bad2 {l : List Cl} {i : Nat} {c d : Cl} (hc : l[i]? = some c) (h0 : 0 < i) (hd : l[i - 1]? = some d) (h : nb d c = false) : stepOk l = false := by
  cases hs : stepOk l
  · rfl
  · rw [(stepOk_iff.1 hs (i - 1) d hd).2 c (by rw [show i - 1 + 1 = i by omega]; exact hc)] at h; cases h
theorem stepOk_ok {l : List Cl} (h : stepOk l = true) {i : Nat} {c : Cl} (hc : l[i]? = some c) : okc c = true := (stepOk_iff.1 h i c hc).1
theorem tval_false1 {r : Int} {cl : Bool} {l : List Cl} (h : ¬ (1 ≤ r ∧ r ≤ 7 ∧ 1 ≤ l.length ∧ l.length ≤ 65536)) : tval ((r, cl), l) = false := by
  unfold tval
  rw [decide_eq_false (by exact h)]; rfl
theorem tval_false2 {r : Int} {cl : Bool} {l : List Cl} (h : stepOk l = false) : tval ((r, cl), l) = false := by unfold tval; simp [h]
theorem tval_end {r : Int} {cl : Bool} {l : List Cl} (h : 1 ≤ r ∧ r ≤ 7 ∧ 1 ≤ l.length ∧ l.length ≤ 65536) (hs : stepOk l = true) : tval ((r, cl), l) = (!cl || decide (l.length = 1) || endsOk l) := by
  unfold tval
  rw [decide_eq_true (by exact h)]; simp [hs]
theorem endsOk_of {l : List Cl} {a b : Cl} (ha : l[l.length - 1]? = some a) (hb : l[0]? = some b) : endsOk l = nb a b := by
  unfold endsOk
  rw [List.getLast?_eq_getElem?, ha, List.head?_eq_getElem?, hb]
theorem tval_len {t : Tr} (h : tval t = true) : (1 ≤ t.1.1 ∧ t.1.1 ≤ 7) ∧ 1 ≤ t.2.length ∧ t.2.length ≤ 65536 := by
  unfold tval at h
  simp only [Bool.and_eq_true, decide_eq_true_eq] at h
  exact ⟨⟨h.1.1.1, h.1.1.2.1⟩, h.1.1.2.2⟩
theorem tval_step {t : Tr} (h : tval t = true) : stepOk t.2 = true := by
  unfold tval at h
  simp only [Bool.and_eq_true] at h
  exact h.1.2
theorem tval_ok {t : Tr} (h : tval t = true) {c : Cl} (hc : c ∈ t.2) : okc c = true := by
  obtain ⟨i, hi⟩ := List.getElem?_of_mem hc
  exact stepOk_ok (tval_step h) hi
end Trk
end Go.Proofs.YtneelidbgigehaaGreat

/- The cells along a loop of the boundary: plain laws. -/
/- The cells along a loop of the boundary: plain laws. -/
namespace Go.Proofs.YtneelidbgigehaaGreat
set_option linter.unusedSimpArgs false
set_option linter.unusedVariables false
namespace Trc
open Trk (Cl Tr okc nb stepOk endsOk tval)
/-- two cells are the same, or neighbours -/
def lk (a b : Cl) : Prop := a = b ∨ nb a b = true
def Lnk (l : List Cl) : Prop := ∀ (i : Nat) (x y : Cl), l[i]? = some x → l[i + 1]? = some y → lk x y
theorem lnk_append {A B : List Cl} (hA : Lnk A) (hB : Lnk B) (h : ∀ x y, A.getLast? = some x → B.head? = some y → lk x y) : Lnk (A ++ B) := by
  intro i x y h1 h2
  by_cases e : i + 1 < A.length
  · rw [List.getElem?_append_left (by omega)] at h1
    rw [List.getElem?_append_left e] at h2
    exact hA i x y h1 h2
  · rw [List.getElem?_append_right (by omega)] at h2
    by_cases e2 : i < A.length
    · rw [List.getElem?_append_left e2] at h1
      have e3 : i + 1 - A.length = 0 := by omega
      rw [e3] at h2
      exact h x y (by rw [List.getLast?_eq_getElem?, show A.length - 1 = i from by omega]; exact h1) (by rw [List.head?_eq_getElem?]; exact h2)
    · rw [List.getElem?_append_right (by omega)] at h1
      exact hB (i - A.length) x y h1 (by rw [show i - A.length + 1 = i + 1 - A.length from by omega]; exact h2)
def addP (out : List Cl) (c : Cl) : List Cl := if out.getLast? = some c then out else out ++ [c]
def ded (l : List Cl) : List Cl := l.foldl addP []
theorem ded_snoc (l : List Cl) (c : Cl) : ded (l ++ [c]) = addP (ded l) c := by simp [ded, List.foldl_append]
theorem ded_spec : ∀ (n : Nat) (l : List Cl), l.length = n → (ded l).getLast? = l.getLast? ∧ (ded l).head? = l.head? ∧ (ded l).length ≤ l.length ∧ (∀ c, c ∈ ded l ↔ c ∈ l) ∧ (Lnk l → (∀ c ∈ l, okc c = true) → stepOk (ded l) = true)
  | 0, l, h => by
    have : l = [] := List.length_eq_zero_iff.1 h
    subst this
    exact ⟨rfl, rfl, Nat.le_refl _, fun c => Iff.rfl, fun _ _ => rfl⟩
  | n + 1, l, h => by
    obtain ⟨m, c, rfl⟩ : ∃ m c, l = m ++ [c] := ⟨l.dropLast, l.getLast (by intro e; simp [e] at h), (List.dropLast_concat_getLast _).symm⟩
    obtain ⟨i1, i2, i3, i4, i5⟩ := ded_spec n m (by simpa using h)
    rw [ded_snoc]
    unfold addP
    have hm : ∀ {p : Prop}, Lnk (m ++ [c]) → (Lnk m → p) → p := fun hl f => f fun i x y h1 h2 => by
      have h3 : i + 1 < m.length := (List.getElem?_eq_some_iff.1 h2).1
      exact hl i x y (by rw [List.getElem?_append_left (by omega)]; exact h1) (by rw [List.getElem?_append_left h3]; exact h2)
    by_cases e : (ded m).getLast? = some c
    · rw [if_pos e]
      have hc : c ∈ m := by rw [i1] at e; exact List.mem_of_getLast? e
      have hne : m ≠ [] := by intro e; simp [e] at hc
      refine ⟨by rw [e]; simp, ?_, by simp; omega, fun x => ?_, fun hl ho => hm hl fun h => i5 h fun x hx => ho x (by simp [hx])⟩
      · rw [i2]; cases m with
        | nil => exact absurd rfl hne
        | cons a t => simp
      · rw [i4]; simp; intro e; exact e ▸ hc
    · rw [if_neg e]
      refine ⟨by simp, ?_, by simp; omega, fun x => by simp [i4], fun hl ho => ?_⟩
      · cases hm : m with
        | nil => simp [ded]
        | cons a t =>
          rw [hm] at i2
          cases hd : ded (a :: t) with
          | nil => rw [hd] at i2; simp at i2
          | cons b s => rw [hd] at i2; simpa using i2
      · have hs := hm hl fun h => i5 h fun x hx => ho x (by simp [hx])
        rw [Trk.stepOk_iff] at hs ⊢
        intro i x hx
        by_cases hi : i < (ded m).length
        · rw [List.getElem?_append_left hi] at hx
          refine ⟨(hs i x hx).1, fun d hd => ?_⟩
          by_cases hi2 : i + 1 < (ded m).length
          · rw [List.getElem?_append_left hi2] at hd
            exact (hs i x hx).2 d hd
          · rw [List.getElem?_append_right (by omega), show i + 1 - (ded m).length = 0 from by omega] at hd
            simp at hd
            subst hd
            have e2 : (ded m).getLast? = some x := by rw [List.getLast?_eq_getElem?, show (ded m).length - 1 = i from by omega]; exact hx
            have e3 : m.getLast? = some x := by rw [← i1]; exact e2
            have hml : m.length - 1 + 1 = m.length := by
              cases m with
              | nil => simp at e3
              | cons a t => simp
            have h4 : lk x c := hl (m.length - 1) x c (by rw [List.getLast?_eq_getElem?] at e3; rw [List.getElem?_append_left (by omega)]; exact e3) (by rw [hml, List.getElem?_append_right (by omega)]; simp)
            rcases h4 with h4 | h4
            · exact absurd (h4 ▸ e2) e
            · exact h4
        · rw [List.getElem?_append_right (by omega)] at hx
          have h0 : i - (ded m).length = 0 := by
            have := (List.getElem?_eq_some_iff.1 hx).1
            simp at this; omega
          rw [h0] at hx
          simp at hx
          subst hx
          refine ⟨ho c (by simp), fun d hd => ?_⟩
          have := (List.getElem?_eq_some_iff.1 hd).1
          simp at this; omega
def finP (out : List Cl) : List Cl := if 1 < out.length ∧ out.head? = out.getLast? then out.dropLast else out
theorem fin_val {l : List Cl} (hn : l ≠ []) (hl : Lnk l) (ho : ∀ c ∈ l, okc c = true) (hc : ∀ x y, l.getLast? = some x → l.head? = some y → lk x y) (hlen : l.length ≤ 65536) :
    tval ((1, true), finP (ded l)) = true ∧ ∀ c, c ∈ finP (ded l) ↔ c ∈ l := by
  obtain ⟨h1, h2, h3, h4, h5⟩ := ded_spec l.length l rfl
  have hs := h5 hl ho
  have hne : ded l ≠ [] := by
    intro e
    cases l with
    | nil => exact hn rfl
    | cons a t => rw [e] at h2; simp at h2
  have hlen2 : 1 ≤ (ded l).length := by cases e : ded l with
    | nil => exact absurd e hne
    | cons a t => simp
  unfold finP
  by_cases e : 1 < (ded l).length ∧ (ded l).head? = (ded l).getLast?
  · rw [if_pos e]
    generalize ded l = D at *
    obtain ⟨m, c, rfl⟩ : ∃ m c, D = m ++ [c] := ⟨D.dropLast, D.getLast hne, (List.dropLast_concat_getLast _).symm⟩
    have hml : 1 ≤ m.length := by have := e.1; simp at this; omega
    obtain ⟨e1, e2⟩ := e
    rw [List.dropLast_concat]
    have hh : m.head? = some c := by
      cases m with
      | nil => simp at hml
      | cons a t => rw [List.getLast?_concat] at e2; simpa using e2
    have hcm : c ∈ m := List.mem_of_head? hh
    constructor
    · have hs2 : stepOk m = true := by
        rw [Trk.stepOk_iff] at hs ⊢
        intro i x hx
        have hi := (List.getElem?_eq_some_iff.1 hx).1
        have hq := hs i x (by rw [List.getElem?_append_left hi]; exact hx)
        exact ⟨hq.1, fun d hd => hq.2 d (by rw [List.getElem?_append_left (List.getElem?_eq_some_iff.1 hd).1]; exact hd)⟩
      have hb : endsOk m = true := by
        obtain ⟨x, hx⟩ : ∃ x, m[m.length - 1]? = some x := ⟨_, List.getElem?_eq_getElem (by omega)⟩
        have hq := ((Trk.stepOk_iff.1 hs) (m.length - 1) x (by rw [List.getElem?_append_left (by omega)]; exact hx)).2 c (by rw [show m.length - 1 + 1 = m.length from by omega, List.getElem?_append_right (by omega)]; simp)
        unfold endsOk
        rw [List.getLast?_eq_getElem?, hx, hh]
        exact hq
      unfold tval
      rw [hs2, hb]
      simp at h3 ⊢
      omega
    · intro x
      rw [← h4]
      simp
      intro e; exact e ▸ hcm
  · rw [if_neg e]
    refine ⟨?_, h4⟩
    unfold tval
    rw [hs]
    simp only [Bool.and_true, Bool.not_true, Bool.false_or, Bool.and_eq_true, decide_eq_true_eq, Bool.or_eq_true]
    refine ⟨by omega, ?_⟩
    by_cases e1 : (ded l).length = 1
    · exact .inl e1
    · refine .inr ?_
      obtain ⟨x, hx⟩ : ∃ x, (ded l).getLast? = some x := ⟨_, List.getLast?_eq_some_getLast hne⟩
      obtain ⟨y, hy⟩ : ∃ y, (ded l).head? = some y := ⟨_, List.head?_eq_some_head hne⟩
      have hk := hc x y (by rw [← h1]; exact hx) (by rw [← h2]; exact hy)
      unfold endsOk
      rw [hx, hy]
      rcases hk with hk | hk
      · exact absurd ⟨by omega, by rw [hx, hy, hk]⟩ e
      · exact hk
def turnC (S : Pt → Bool) (c : Ck) : List Cl := if (nx S c).2 = rt c.2 then [lcP (fromP c.2 c.1) c.2] else []
/-- the cells that a walker on the left of a crack passes -/
def wcs (S : Pt → Bool) (c : Ck) : List Cl := lcP c.1 c.2 :: turnC S c
theorem crk_iff {S : Pt → Bool} {p : Pt} {h : Int} : crk S p h = true ↔ (0 ≤ h ∧ h < 4) ∧ S (lcP p h) = true ∧ S (rcP p h) = false := by
  unfold crk
  simp [and_assoc]
theorem lf_rc {q : Pt} {h : Int} (hh : h = 0 ∨ h = 1 ∨ h = 2 ∨ h = 3) : rcP q (lf h) = lcP q h := by
  rcases hh with rfl | rfl | rfl | rfl <;> simp [rcP, lcP, lf]
theorem lf_lc {p : Pt} {h : Int} (hh : h = 0 ∨ h = 1 ∨ h = 2 ∨ h = 3) : lcP (fromP h p) (lf h) = lcP p h := by
  rcases hh with rfl | rfl | rfl | rfl <;> simp [lcP, lf, fromP] <;> omega
theorem straight {S : Pt → Bool} {p : Pt} {h : Int} (hc : crk S p h = true) (hq : crk S (fromP h p) h = true) : nxH S (fromP h p) h = h := by
  have hh := crk_h hc
  unfold nxH
  have e : crk S (fromP h p) (lf h) = false := by
    cases e : crk S (fromP h p) (lf h) with
    | false => rfl
    | true =>
      have := (crk_iff.1 e).2.2
      rw [lf_rc hh, (crk_iff.1 hq).2.1] at this
      exact absurd this (by simp)
  rw [e, hq]
  simp
theorem rt_ne {h : Int} (hh : h = 0 ∨ h = 1 ∨ h = 2 ∨ h = 3) : h ≠ rt h ∧ lf h ≠ rt h := by
  rcases hh with rfl | rfl | rfl | rfl <;> simp [rt, lf]
theorem right_in {S : Pt → Bool} {p : Pt} {h : Int} (hc : crk S p h = true) (hn : nxH S (fromP h p) h = rt h) : S (lcP (fromP h p) h) = true := by
  have hh := crk_h hc
  have h1 := rt_ne hh
  cases e : S (lcP (fromP h p) h) with
  | true => rfl
  | false =>
    have : crk S (fromP h p) (lf h) = true := by
      refine crk_iff.2 ⟨by unfold lf; omega, ?_, ?_⟩
      · rw [lf_lc hh]; exact (crk_iff.1 hc).2.1
      · rw [lf_rc hh]; exact e
    unfold nxH at hn
    rw [if_pos this] at hn
    exact absurd hn h1.2
/-- a cell of S beside one that is not of S -/
def edgeS (S : Pt → Bool) (c : Cl) : Prop := S c = true ∧ ∃ d : Cl, S d = false ∧ -1 ≤ d.1 - c.1 ∧ d.1 - c.1 ≤ 1 ∧ -1 ≤ d.2 - c.2 ∧ d.2 - c.2 ≤ 1
theorem wcs_edge {S : Pt → Bool} {k : Ck} (hk : crk S k.1 k.2 = true) {c : Cl} (hc : c ∈ wcs S k) : edgeS S c := by
  obtain ⟨p, h⟩ := k
  have hh := crk_h hk
  have hi := crk_iff.1 hk
  unfold wcs turnC nx at hc
  simp only [List.mem_cons] at hc
  rcases hc with rfl | hc
  · refine ⟨hi.2.1, rcP p h, hi.2.2, ?_⟩
    simp only at hh
    rcases hh with rfl | rfl | rfl | rfl <;> simp [rcP, lcP] <;> omega
  · split at hc
    · rename_i e
      simp at hc
      subst hc
      refine ⟨right_in hk e, rcP p h, hi.2.2, ?_⟩
      simp only at hh
      rcases hh with rfl | rfl | rfl | rfl <;> simp [rcP, lcP, fromP] <;> omega
    · cases hc
theorem nb_go {p : Pt} {h : Int} (hh : h = 0 ∨ h = 1 ∨ h = 2 ∨ h = 3) : nb (lcP p h) (lcP (fromP h p) h) = true := by
  unfold nb
  rw [decide_eq_true_eq]
  have e1 : ∀ a : Int, a - (a - 1) = 1 := fun a => by omega
  have e2 : ∀ a : Int, a - (a + 1) = -1 := fun a => by omega
  have e3 : ∀ a : Int, a - 1 - (a - 1 - 1) = 1 := fun a => by omega
  have e4 : ∀ a : Int, a - 1 - (a + 1 - 1) = -1 := fun a => by omega
  rcases hh with rfl | rfl | rfl | rfl <;> simp [lcP, fromP, e1, e2, e3, e4]
theorem nb_rt {q : Pt} {h : Int} (hh : h = 0 ∨ h = 1 ∨ h = 2 ∨ h = 3) : nb (lcP q h) (lcP q (rt h)) = true := by
  unfold nb
  rw [decide_eq_true_eq]
  have e1 : ∀ a : Int, a - (a - 1) = 1 := fun a => by omega
  have e2 : ∀ a : Int, a - 1 - a = -1 := fun a => by omega
  rcases hh with rfl | rfl | rfl | rfl <;> simp [lcP, rt, e1, e2]
def legR (x : Leg) : List Cl := (List.range x.2.2).map fun j => lcP (stepN x.2.1 j x.1) x.2.1
def turnR (x y : Leg) : List Cl := if y.2.1 = rt x.2.1 then [lcP (endL x) x.2.1] else []
def legW (L : List Leg) (i : Nat) : List Cl := match L[i]?, L[(i + 1) % L.length]? with | some x, some y => legR x ++ turnR x y | _, _ => []
def rawTo (L : List Leg) (i : Nat) : List Cl := (List.range i).flatMap (legW L)
def walkL (L : List Leg) : List Cl := finP (ded (rawTo L L.length))
theorem rawTo_succ (L : List Leg) (i : Nat) : rawTo L (i + 1) = rawTo L i ++ legW L i := by simp [rawTo, List.range_succ, List.flatMap_append]
theorem loop_next {S : Pt → Bool} {L : List Leg} (hL : Loop S L) {i : Nat} (hi : i < L.length) :
    ∃ x y, L[i]? = some x ∧ L[(i + 1) % L.length]? = some y ∧ y.1 = endL x ∧ 0 < x.2.2 ∧ y.2.1 = nxH S (endL x) x.2.1 ∧ ∀ j < x.2.2, crk S (stepN x.2.1 j x.1) x.2.1 = true := by
  obtain ⟨l, hl⟩ : ∃ l, L[i]? = some l := ⟨_, List.getElem?_eq_getElem hi⟩
  have hk : ∀ j < l.2.2, crk S (stepN l.2.1 j l.1) l.2.1 = true := fun j hj =>
    hL.ck (stepN l.2.1 j l.1, l.2.1) (List.mem_flatMap.2 ⟨l, List.mem_of_getElem? hl, List.mem_map.2 ⟨j, List.mem_range.2 hj, rfl⟩⟩)
  by_cases h2 : i + 1 < L.length
  · rw [Nat.mod_eq_of_lt h2]
    obtain ⟨m, hm⟩ : ∃ m, L[i + 1]? = some m := ⟨_, List.getElem?_eq_getElem h2⟩
    obtain ⟨a1, a2, a3⟩ := hL.chn i l m hl hm
    exact ⟨l, m, hl, hm, a1, a2, by rw [a3, a1]; rfl, hk⟩
  · have e : i + 1 = L.length := by omega
    rw [e, Nat.mod_self]
    obtain ⟨m, hm⟩ : ∃ m, L[0]? = some m := ⟨_, List.getElem?_eq_getElem (by omega)⟩
    obtain ⟨a1, a2, a3⟩ := hL.cl m l (by rw [List.head?_eq_getElem?]; exact hm) (by rw [List.getLast?_eq_getElem?, ← e]; exact hl)
    exact ⟨l, m, hl, hm, a1, a2, by rw [a3, a1]; rfl, hk⟩
theorem legW_is {L : List Leg} {i : Nat} {x y : Leg} (h1 : L[i]? = some x) (h2 : L[(i + 1) % L.length]? = some y) : legW L i = legR x ++ turnR x y := by
  unfold legW; rw [h1, h2]
theorem legR_succ (a : Pt) (h : Int) (k : Nat) : legR (a, h, k + 1) = legR (a, h, k) ++ [lcP (stepN h k a) h] := by simp [legR, List.range_succ]
theorem leg_wcs {S : Pt → Bool} {a : Pt} {h : Int} : ∀ (j : Nat), (∀ i < j + 1, crk S (stepN h i a) h = true) → (legC (a, h, j)).flatMap (wcs S) = legR (a, h, j)
  | 0, _ => rfl
  | j + 1, hk => by
    rw [legC_succ, legR_succ, List.flatMap_append, leg_wcs j fun i hi => hk i (by omega)]
    have h1 := hk j (by omega)
    have h2 := hk (j + 1) (by omega)
    have h3 : nxH S (fromP h (stepN h j a)) h = h := straight h1 h2
    simp [wcs, turnC, nx, h3, (rt_ne (crk_h h1)).1]
theorem legW_wcs {S : Pt → Bool} {L : List Leg} (hL : Loop S L) {i : Nat} {x : Leg} (hx : L[i]? = some x) : legW L i = (legC x).flatMap (wcs S) := by
  obtain ⟨x', y, h1, h2, h3, h4, h5, h6⟩ := loop_next hL (i := i) (List.getElem?_eq_some_iff.1 hx).1
  rw [hx] at h1
  injection h1 with h1
  subst h1
  rw [legW_is hx h2]
  obtain ⟨a, h, k⟩ := x
  obtain ⟨m, rfl⟩ : ∃ m, k = m + 1 := ⟨k - 1, by simp at h4; omega⟩
  rw [legC_succ, legR_succ, List.flatMap_append, leg_wcs m fun i hi => h6 i hi, List.append_assoc]
  congr 1
  unfold turnR wcs turnC nx
  simp only [List.flatMap_cons, List.flatMap_nil, List.append_nil]
  rw [h5]
  rfl
theorem raw_is {S : Pt → Bool} {L : List Leg} (hL : Loop S L) : ∀ i, i ≤ L.length → rawTo L i = (trail (L.take i)).flatMap (wcs S)
  | 0, _ => by simp [rawTo, trail]
  | i + 1, hi => by
    obtain ⟨x, hx⟩ : ∃ x, L[i]? = some x := ⟨_, List.getElem?_eq_getElem (by omega)⟩
    rw [rawTo_succ, raw_is hL i (by omega), legW_wcs hL hx, List.take_add_one, hx]
    simp [trail, List.flatMap_append]
theorem raw_all {S : Pt → Bool} {L : List Leg} (hL : Loop S L) : rawTo L L.length = (trail L).flatMap (wcs S) := by
  rw [raw_is hL _ (Nat.le_refl _), List.take_length]
theorem flat_two {α β : Type} {f : α → List β} (hf : ∀ a, (f a).length ≤ 2) : ∀ (l : List α), (l.flatMap f).length ≤ 2 * l.length
  | [] => by simp
  | a :: l => by
    have := flat_two hf l
    have := hf a
    simp only [List.flatMap_cons, List.length_append, List.length_cons]
    omega
theorem wcs_two (S : Pt → Bool) (c : Ck) : (wcs S c).length ≤ 2 := by unfold wcs turnC; split <;> simp
theorem raw_len {S : Pt → Bool} {L : List Leg} (hL : Loop S L) : (rawTo L L.length).length ≤ 2 * (trail L).length := by
  rw [raw_all hL]; exact flat_two (wcs_two S) _
theorem leg_lnk {S : Pt → Bool} {x y : Leg} (h3 : y.1 = endL x) (h4 : 0 < x.2.2) (h5 : y.2.1 = nxH S (endL x) x.2.1) (h6 : ∀ j < x.2.2, crk S (stepN x.2.1 j x.1) x.2.1 = true) :
    Lnk (legR x ++ turnR x y) ∧ (legR x ++ turnR x y).head? = some (lcP x.1 x.2.1) ∧ ∀ c, (legR x ++ turnR x y).getLast? = some c → lk c (lcP y.1 y.2.1) := by
  obtain ⟨a, h, k⟩ := x
  simp only at h3 h4 h5 h6
  obtain ⟨m, rfl⟩ : ∃ m, k = m + 1 := ⟨k - 1, by omega⟩
  have hh := crk_h (h6 0 (by omega))
  have hm := h6 m (by omega)
  have e1 : endL (a, h, m + 1) = fromP h (stepN h m a) := rfl
  have hR : Lnk (legR (a, h, m + 1)) := by
    intro i u v hu hv
    unfold legR at hu hv
    rw [List.getElem?_map] at hu hv
    have hi : i + 1 < m + 1 := by
      cases e : (List.range (m + 1))[i + 1]? with
      | none => simp only at hv; rw [e] at hv; cases hv
      | some z => simpa using (List.getElem?_eq_some_iff.1 e).1
    simp only at hu hv
    rw [List.getElem?_range (by omega)] at hu
    rw [List.getElem?_range hi] at hv
    simp at hu hv
    subst hu hv
    exact .inr (nb_go hh)
  have hlast : (legR (a, h, m + 1)).getLast? = some (lcP (stepN h m a) h) := by rw [legR_succ]; simp
  have hhead : (legR (a, h, m + 1)).head? = some (lcP a h) := by simp [legR, List.range_succ_eq_map, stepN]
  unfold turnR
  simp only
  rw [e1] at h3 h5 ⊢
  by_cases e : y.2.1 = rt h
  · rw [if_pos e]
    refine ⟨lnk_append hR (fun i u v hu hv => by simp at hv) fun u v hu hv => ?_, ?_, fun c hc => ?_⟩
    · rw [hlast] at hu
      injection hu with hu
      simp at hv
      subst hu hv
      exact .inr (nb_go hh)
    · rw [List.head?_append, hhead]; rfl
    · rw [List.getLast?_append] at hc
      simp at hc
      subst hc
      rw [h3, e]
      exact .inr (nb_rt hh)
  · rw [if_neg e, List.append_nil]
    refine ⟨hR, hhead, fun c hc => ?_⟩
    rw [hlast] at hc
    injection hc with hc
    subst hc
    rw [h3, h5]
    rw [h5] at e
    unfold nxH at e ⊢
    by_cases e2 : crk S (fromP h (stepN h m a)) (lf h) = true
    · rw [if_pos e2, lf_lc hh]; exact .inl rfl
    · rw [if_neg e2] at e ⊢
      by_cases e3 : crk S (fromP h (stepN h m a)) h = true
      · rw [if_pos e3]; exact .inr (nb_go hh)
      · rw [if_neg e3] at e; exact absurd rfl e
theorem raw_lnk {S : Pt → Bool} {L : List Leg} (hL : Loop S L) : ∀ i, i ≤ L.length → Lnk (rawTo L i) ∧ (0 < i → (rawTo L i).head? = L.head?.map fun x => lcP x.1 x.2.1) ∧ (0 < i → ∀ c y, (rawTo L i).getLast? = some c → L[i % L.length]? = some y → lk c (lcP y.1 y.2.1))
  | 0, _ => ⟨fun i x y h => by simp [rawTo] at h, fun h => absurd h (by omega), fun h => absurd h (by omega)⟩
  | i + 1, hi => by
    obtain ⟨a1, a2, a3⟩ := raw_lnk hL i (by omega)
    obtain ⟨x, y, h1, h2, h3, h4, h5, h6⟩ := loop_next hL (i := i) (by omega)
    obtain ⟨b1, b2, b3⟩ := leg_lnk h3 h4 h5 h6
    rw [rawTo_succ, legW_is h1 h2]
    have hne : legR x ++ turnR x y ≠ [] := by intro e; rw [e] at b2; simp at b2
    refine ⟨lnk_append a1 b1 fun u v hu hv => ?_, fun _ => ?_, fun _ c z hc hz => ?_⟩
    · rw [b2] at hv
      injection hv with hv
      subst hv
      by_cases e : 0 < i
      · exact a3 e u x hu (by rw [Nat.mod_eq_of_lt (by omega)]; exact h1)
      · have : i = 0 := by omega
        subst this
        simp [rawTo] at hu
    · by_cases e : 0 < i
      · rw [List.head?_append, a2 e]
        cases L with
        | nil => simp at hi
        | cons z t => simp
      · have : i = 0 := by omega
        subst this
        rw [show rawTo L 0 = [] from rfl, List.nil_append, b2, List.head?_eq_getElem?, h1]
        rfl
    · rw [h2] at hz
      injection hz with hz
      subst hz
      rw [List.getLast?_append] at hc
      cases e : (legR x ++ turnR x y).getLast? with
      | none => exact absurd (List.getLast?_eq_none_iff.1 e) hne
      | some d =>
        rw [e] at hc
        simp at hc
        subst hc
        exact b3 d e
theorem walkL_val {S : Pt → Bool} {L : List Leg} (hL : Loop S L) (ho : ∀ c, S c = true → okc c = true) (hlen : (trail L).length ≤ 32768) :
    tval ((1, true), walkL L) = true ∧ ∀ c, c ∈ walkL L ↔ ∃ k ∈ trail L, c ∈ wcs S k := by
  have hn : 0 < L.length := List.length_pos_iff.2 hL.ne
  obtain ⟨a1, a2, a3⟩ := raw_lnk hL L.length (Nat.le_refl _)
  have hmem : ∀ c, c ∈ rawTo L L.length ↔ ∃ k ∈ trail L, c ∈ wcs S k := fun c => by rw [raw_all hL]; exact List.mem_flatMap
  have hne : rawTo L L.length ≠ [] := by
    intro e
    obtain ⟨x, t, rfl⟩ : ∃ x t, L = x :: t := by
      cases L with
      | nil => simp at hn
      | cons x t => exact ⟨x, t, rfl⟩
    have h := a2 hn
    rw [e] at h
    simp at h
  have hv := fin_val hne a1 (fun c hc => by
    obtain ⟨k, hk, hc⟩ := (hmem c).1 hc
    exact ho c (wcs_edge (hL.ck k hk) hc).1) (fun u v hu hv => by
    have h0 : L[L.length % L.length]? = L.head? := by rw [Nat.mod_self, List.head?_eq_getElem?]
    obtain ⟨x, hx⟩ : ∃ x, L.head? = some x := ⟨_, List.head?_eq_some_head hL.ne⟩
    have h1 := a2 hn
    rw [hv, hx] at h1
    simp at h1
    rw [h1]
    exact a3 hn u x hu (h0.trans hx)) (by have := raw_len hL; omega)
  exact ⟨hv.1, fun c => (hv.2 c).trans (hmem c)⟩
end Trc
end Go.Proofs.YtneelidbgigehaaGreat

/- The laws of sets for lists of runs; Grow and Shrink are adjoint; with no program in sight. -/
import Derived.Test.YtlhmopndnohnhaaRunsMoves2
namespace Go.Proofs.Ytlhmopndnohnhaa
set_option linter.unusedSimpArgs false
set_option linter.unusedVariables false
open Runs
theorem valid_ext {a b : List Run} (ha : valid a = true) (hb : valid b = true) (h : ∀ x, mem a x = mem b x) : a = b := sep_ext (valid_iff.1 ha).1 (valid_iff.1 hb).1 h
theorem setop_spec (n : Int) {a b : List Run} (ha : valid a = true) (hb : valid b = true) : valid (setop (opf n) a b) = true ∧ ∀ x, mem (setop (opf n) a b) x = opf n (mem a x) (mem b x) := by
  have e : setop (opf n) a b = Runs.choose (opf n) a b := by simp [setop, ha, hb]
  rw [e]
  exact ⟨valid_choose (opf_ff n) ha hb, (choose_spec (opf_ff n) a b).2⟩
theorem valid_nil : valid [] = true := rfl
theorem normR_valid {l : List Run} : valid (normR l) = true := by
  unfold normR
  split
  · rename_i h
    obtain ⟨h1, h2⟩ := norm_spec l
    refine valid_iff.2 ⟨h1, fit_of_mem h1 fun x hx => ?_⟩
    rw [h2, ← full_mem] at hx
    obtain ⟨r, hr, h3, h4⟩ := mem_iff.1 hx
    have := fits_bd (List.all_eq_true.1 h r hr)
    omega
  · rfl
theorem empty_iff {a : List Run} (ha : valid a = true) : a = [] ↔ ∀ x, mem a x = false := by
  constructor
  · rintro rfl x; rfl
  · intro h; exact valid_ext ha valid_nil fun x => by rw [h]; rfl
/-- how many of the n integers from lo on P holds of -/
def cnt (P : Int → Bool) (lo : Int) : Nat → Int
  | 0 => 0
  | n + 1 => cnt P lo n + if P (lo + n) then 1 else 0
theorem cnt_add {P Q R S : Int → Bool} (lo : Int) (h : ∀ x, ((if P x then 1 else 0) + (if Q x then 1 else 0) : Int) = (if R x then 1 else 0) + (if S x then 1 else 0)) : ∀ n, cnt P lo n + cnt Q lo n = cnt R lo n + cnt S lo n
  | 0 => rfl
  | n + 1 => by
    have := cnt_add lo h n
    have := h (lo + n)
    simp only [cnt]
    omega
theorem cnt_false (lo : Int) : ∀ n, cnt (fun _ => false) lo n = 0
  | 0 => rfl
  | n + 1 => by simp [cnt, cnt_false lo n]
theorem cnt_run {r : Run} {lo : Int} (h0 : r.1 ≤ r.2) (h : lo ≤ r.1) : ∀ n : Nat, cnt (inR r) lo n = if lo + n ≤ r.1 then 0 else if lo + n ≤ r.2 then lo + n - r.1 else r.2 - r.1
  | 0 => by simp only [cnt]; split <;> (try split) <;> omega
  | n + 1 => by
    simp only [cnt]
    rw [cnt_run h0 h n]
    by_cases h1 : r.1 ≤ lo + n ∧ lo + n < r.2
    · have : inR r (lo + n) = true := by simp [inR, h1.1, h1.2]
      rw [this]
      simp only [if_true]
      repeat' split
      all_goals omega
    · have : inR r (lo + n) = false := by simp [inR]; omega
      rw [this]
      simp only [Bool.false_eq_true, if_false]
      repeat' split
      all_goals omega
theorem sumL_cnt {lo : Int} {n : Nat} : ∀ {l : List Run}, Sep l → (∀ r ∈ l, lo ≤ r.1 ∧ r.2 ≤ lo + n) → sumL l = cnt (mem l) lo n
  | [], _, _ => by
    have : mem [] = fun _ => false := rfl
    rw [this, cnt_false]; rfl
  | r :: l, hs, hb => by
    obtain ⟨h1, h2, h3⟩ := sep_cons.1 hs
    have ih := sumL_cnt (lo := lo) (n := n) h3 (fun q hq => hb q (by simp [hq]))
    have hr := hb r (by simp)
    have hadd := cnt_add (P := mem (r :: l)) (Q := fun _ => false) (R := inR r) (S := mem l) lo (fun x => by
      rw [mem_cons]
      cases e1 : inR r x
      · simp
      · have : mem l x = false := not_mem_of_lt fun q hq => by
          have := h2 q hq
          simp [inR] at e1
          omega
        simp [this]) n
    rw [cnt_false, ← ih, cnt_run (by omega) hr.1, if_neg (by omega)] at hadd
    have e : sumL (r :: l) = (r.2 - r.1) + sumL l := rfl
    rw [e]
    split at hadd <;> omega
theorem lenL_cnt {l : List Run} (hv : valid l = true) : lenL l = cnt (mem l) (-1048576) 2097152 := by
  unfold lenL
  rw [if_pos hv]
  refine sumL_cnt (valid_iff.1 hv).1 fun r hr => ?_
  have := fits_bd ((valid_iff.1 hv).2 r hr)
  omega
theorem len_sum {a b : List Run} (ha : valid a = true) (hb : valid b = true) : lenL (setop (opf 2) a b) + lenL (setop (opf 1) a b) = lenL a + lenL b := by
  obtain ⟨u1, u2⟩ := setop_spec 2 ha hb
  obtain ⟨i1, i2⟩ := setop_spec 1 ha hb
  rw [lenL_cnt u1, lenL_cnt i1, lenL_cnt ha, lenL_cnt hb]
  refine cnt_add _ (fun x => ?_) _
  rw [u2, i2]
  cases mem a x <;> cases mem b x <;> rfl
section
variable {a b c : List Run} (ha : valid a = true) (hb : valid b = true) (hc : valid c = true)
include ha hb
theorem sets_whole : setop (opf 2) (setop (opf 1) a b) (setop (opf 0) a b) = a := by
  obtain ⟨i1, i2⟩ := setop_spec 1 ha hb
  obtain ⟨d1, d2⟩ := setop_spec 0 ha hb
  obtain ⟨u1, u2⟩ := setop_spec 2 i1 d1
  refine valid_ext u1 ha fun x => ?_
  rw [u2, i2, d2]
  cases mem a x <;> cases mem b x <;> rfl
theorem sets_apart : setop (opf 1) (setop (opf 1) a b) (setop (opf 0) a b) = [] := by
  obtain ⟨i1, i2⟩ := setop_spec 1 ha hb
  obtain ⟨d1, d2⟩ := setop_spec 0 ha hb
  obtain ⟨u1, u2⟩ := setop_spec 1 i1 d1
  refine valid_ext u1 valid_nil fun x => ?_
  rw [u2, i2, d2]
  cases mem a x <;> cases mem b x <;> rfl
include hc
theorem sets_assoc : setop (opf 2) (setop (opf 2) a b) c = setop (opf 2) a (setop (opf 2) b c) := by
  obtain ⟨u1, u2⟩ := setop_spec 2 ha hb
  obtain ⟨v1, v2⟩ := setop_spec 2 hb hc
  obtain ⟨p1, p2⟩ := setop_spec 2 u1 hc
  obtain ⟨q1, q2⟩ := setop_spec 2 ha v1
  refine valid_ext p1 q1 fun x => ?_
  rw [p2, q2, u2, v2]
  cases mem a x <;> cases mem b x <;> cases mem c x <;> rfl
theorem sets_distr : setop (opf 1) (setop (opf 2) a b) c = setop (opf 2) (setop (opf 1) a c) (setop (opf 1) b c) := by
  obtain ⟨u1, u2⟩ := setop_spec 2 ha hb
  obtain ⟨v1, v2⟩ := setop_spec 1 ha hc
  obtain ⟨w1, w2⟩ := setop_spec 1 hb hc
  obtain ⟨p1, p2⟩ := setop_spec 1 u1 hc
  obtain ⟨q1, q2⟩ := setop_spec 2 v1 w1
  refine valid_ext p1 q1 fun x => ?_
  rw [p2, q2, u2, v2, w2]
  cases mem a x <;> cases mem b x <;> cases mem c x <;> rfl
theorem sets_minus : setop (opf 0) (setop (opf 0) a b) c = setop (opf 0) a (setop (opf 2) b c) := by
  obtain ⟨u1, u2⟩ := setop_spec 0 ha hb
  obtain ⟨v1, v2⟩ := setop_spec 2 hb hc
  obtain ⟨p1, p2⟩ := setop_spec 0 u1 hc
  obtain ⟨q1, q2⟩ := setop_spec 0 ha v1
  refine valid_ext p1 q1 fun x => ?_
  rw [p2, q2, u2, v2]
  cases mem a x <;> cases mem b x <;> cases mem c x <;> rfl
end
theorem minus_empty {a b : List Run} (ha : valid a = true) (hb : valid b = true) : (setop (opf 0) a b).length = 0 ↔ ∀ x, mem a x = true → mem b x = true := by
  obtain ⟨u1, u2⟩ := setop_spec 0 ha hb
  rw [List.length_eq_zero_iff, empty_iff u1]
  constructor
  · intro h x hx
    have := h x
    rw [u2, hx] at this
    cases hb2 : mem b x
    · rw [hb2] at this; cases this
    · rfl
  · intro h x
    rw [u2]
    cases hx : mem a x
    · cases mem b x <;> rfl
    · rw [h x hx]; rfl
theorem mem_gr {a : List Run} {k x : Int} (ha : valid a = true) (hk : 0 ≤ k) : mem (a.map (gr k)) x = true ↔ ∃ y, y - k ≤ x ∧ x ≤ y + k ∧ mem a y = true := by
  rw [mem_iff]
  constructor
  · rintro ⟨q, hq, h1, h2⟩
    obtain ⟨r, hr, rfl⟩ := List.mem_map.1 hq
    have h3 := (valid_iff.1 ha).1.1 r hr
    simp only [gr] at h1 h2
    rcases Int.lt_or_le x r.1 with h | h
    · exact ⟨r.1, by omega, by omega, mem_iff.2 ⟨r, hr, by omega, by omega⟩⟩
    · rcases Int.lt_or_le x r.2 with h' | h'
      · exact ⟨x, by omega, by omega, mem_iff.2 ⟨r, hr, by omega, by omega⟩⟩
      · exact ⟨r.2 - 1, by omega, by omega, mem_iff.2 ⟨r, hr, by omega, by omega⟩⟩
  · rintro ⟨y, h1, h2, hy⟩
    obtain ⟨r, hr, h3, h4⟩ := mem_iff.1 hy
    exact ⟨gr k r, List.mem_map_of_mem hr, by simp only [gr]; omega, by simp only [gr]; omega⟩
theorem mem_shr {b : List Run} {k y : Int} (hb : valid b = true) (hk : 0 ≤ k) : mem (shr k b) y = true ↔ ∀ x, y - k ≤ x → x ≤ y + k → mem b x = true := by
  rw [mem_iff]
  unfold shr
  constructor
  · rintro ⟨q, hq, h1, h2⟩ x hx1 hx2
    obtain ⟨r, hr, rfl⟩ := List.mem_map.1 hq
    simp only at h1 h2
    exact mem_iff.2 ⟨r, (List.mem_filter.1 hr).1, by omega, by omega⟩
  · intro h
    obtain ⟨r, hr, h1, h2⟩ := mem_iff.1 (h (y - k) (by omega) (by omega))
    have h3 : y + k < r.2 := by
      refine Int.lt_of_not_ge fun hc => ?_
      obtain ⟨q, hq, h4, h5⟩ := mem_iff.1 (h r.2 (by omega) (by omega))
      obtain ⟨i, hi, rfl⟩ := List.getElem_of_mem hr
      obtain ⟨j, hj, rfl⟩ := List.getElem_of_mem hq
      have hs := (valid_iff.1 hb).1
      have hp := List.pairwise_iff_getElem.1 hs.2
      rcases Nat.lt_trichotomy i j with hij | hij | hij
      · have := hp i j hi hj hij; omega
      · subst hij; omega
      · have := hp j i hj hi hij
        have := hs.1 _ (List.getElem_mem hi)
        omega
    refine ⟨(r.1 + k, r.2 - k), List.mem_map.2 ⟨r, List.mem_filter.2 ⟨hr, ?_⟩, rfl⟩, by simp only; omega, by simp only; omega⟩
    rw [decide_eq_true_eq]; omega
theorem shrink_valid {b : List Run} {k : Int} : valid (shrinkL b k) = true := by
  unfold shrinkL
  split
  · rename_i h
    simp [shrinkOk] at h
    obtain ⟨hb, hk1, hk2⟩ := h
    obtain ⟨hs, hf⟩ := valid_iff.1 hb
    refine valid_iff.2 ⟨⟨fun q hq => ?_, ?_⟩, fun q hq => ?_⟩
    · obtain ⟨r, hr, rfl⟩ := List.mem_map.1 hq
      simpa using (List.mem_filter.1 hr).2
    · unfold shr
      rw [List.pairwise_map]
      exact (hs.2.filter _).imp fun {a b} h => by simp only; omega
    · obtain ⟨r, hr, rfl⟩ := List.mem_map.1 hq
      obtain ⟨h1, h2⟩ := List.mem_filter.1 hr
      have := fits_bd (hf r h1)
      simp at h2
      simp [fits]; omega
  · rfl
theorem grow_ok {a : List Run} {k : Int} (h : growE a k = 0) : valid a = true ∧ 0 ≤ k ∧ k ≤ 65536 ∧ growL a k = norm (a.map (gr k)) := by
  unfold growE at h
  split at h
  · rename_i hg
    have hg2 := hg
    simp [growOk] at hg2
    have hn : normOk (a.map (gr k)) = true := by
      unfold normE at h
      split at h
      · assumption
      · cases h
    exact ⟨hg2.1, hg2.2.1, hg2.2.2, by simp [growL, hg, normR, hn]⟩
  · cases h
theorem grow_valid {a : List Run} {k : Int} : valid (growL a k) = true := by
  unfold growL; split
  · exact normR_valid
  · rfl
theorem mem_grow {a : List Run} {k : Int} (h : growE a k = 0) (x : Int) : mem (growL a k) x = true ↔ ∃ y, y - k ≤ x ∧ x ≤ y + k ∧ mem a y = true := by
  obtain ⟨h1, h2, h3, h4⟩ := grow_ok h
  rw [h4, (norm_spec _).2, mem_gr h1 h2]
theorem mem_shrink {b : List Run} {k : Int} (hb : valid b = true) (h1 : 0 ≤ k) (h2 : k ≤ 65536) (y : Int) : mem (shrinkL b k) y = true ↔ ∀ x, y - k ≤ x → x ≤ y + k → mem b x = true := by
  have : shrinkL b k = shr k b := by
    unfold shrinkL; rw [if_pos]; simp [shrinkOk, hb, h1]; omega
  rw [this, mem_shr hb h1]
/-- Grow and Shrink are adjoint -/
theorem adjoint {a b : List Run} {k : Int} (hb : valid b = true) (h : growE a k = 0) : (setop (opf 0) (growL a k) b).length = 0 ↔ (setop (opf 0) a (shrinkL b k)).length = 0 := by
  obtain ⟨ha, h1, h2, _⟩ := grow_ok h
  rw [minus_empty grow_valid hb, minus_empty ha shrink_valid]
  constructor
  · intro hs y hy
    rw [mem_shrink hb h1 h2]
    intro x hx1 hx2
    exact hs x ((mem_grow h x).2 ⟨y, by omega, by omega, hy⟩)
  · intro hs x hx
    obtain ⟨y, hy1, hy2, hy⟩ := (mem_grow h x).1 hx
    exact (mem_shrink hb h1 h2 y).1 (hs y hy) x (by omega) (by omega)
theorem adjoint_in {a : List Run} {k : Int} (h : growE a k = 0) : (setop (opf 0) a (shrinkL (growL a k) k)).length = 0 := by
  rw [← adjoint grow_valid h, minus_empty grow_valid grow_valid]
  exact fun _ h => h
theorem open_ok {b : List Run} {k : Int} (hb : valid b = true) (h1 : 0 ≤ k) (h2 : k ≤ 65536) : growE (shrinkL b k) k = 0 := by
  have hg : growOk (shrinkL b k) k = true := by simp [growOk, shrink_valid, h1, h2]
  unfold growE
  rw [if_pos hg]
  unfold normE
  rw [if_pos]
  unfold normOk
  refine List.all_eq_true.2 fun q hq => ?_
  obtain ⟨r, hr, rfl⟩ := List.mem_map.1 (List.mem_filter.1 hq).1
  have e : shrinkL b k = shr k b := by
    unfold shrinkL; rw [if_pos]; simp [shrinkOk, hb, h1]; omega
  rw [e] at hr
  obtain ⟨s, hs, rfl⟩ := List.mem_map.1 hr
  have := fits_bd ((valid_iff.1 hb).2 s (List.mem_filter.1 hs).1)
  simp [fits, gr]; omega
theorem open_in {b : List Run} {k : Int} (hb : valid b = true) (h1 : 0 ≤ k) (h2 : k ≤ 65536) : (setop (opf 0) (growL (shrinkL b k) k) b).length = 0 := by
  rw [adjoint hb (open_ok hb h1 h2), minus_empty shrink_valid shrink_valid]
  exact fun _ h => h
end Go.Proofs.Ytlhmopndnohnhaa

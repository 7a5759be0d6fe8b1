/- Chapter 19 in plain words: edges, crossings, winding numbers, rows. -/
import Derived.Test.YtneelidbgigehaaGreatPlain
namespace Go.Proofs.YtneelidbgigehaaGreat
set_option linter.unusedSimpArgs false
set_option linter.unusedVariables false
namespace Ras
open Runs Reg
abbrev P2 := Int × Int
/-- an edge from its lower end to its upper one, with its sign -/
abbrev Ed := (P2 × P2) × Int
def edge? (a b : P2) : Option Ed := if a.2 < b.2 then some ((a, b), 1) else if b.2 < a.2 then some ((b, a), -1) else none
/-- the side of a closed polygon from its vertex i on -/
def sideAt (o : List P2) (i : Nat) : P2 × P2 := ((o[i]?).getD (0, 0), (o[(i + 1) % o.length]?).getD (0, 0))
def sidesTo (o : List P2) (k : Nat) : List (P2 × P2) := (List.range k).map (sideAt o)
def sides (o : List P2) : List (P2 × P2) := sidesTo o o.length
def edgesOf (s : List (P2 × P2)) : List Ed := s.filterMap fun s => edge? s.1 s.2
def edgesR (l : List (List P2)) : List Ed := edgesOf (l.flatMap sides)
theorem sidesTo_succ (o : List P2) (k : Nat) : sidesTo o (k + 1) = sidesTo o k ++ [sideAt o k] := by simp [sidesTo, List.range_succ]
theorem edgesOf_append (s t : List (P2 × P2)) : edgesOf (s ++ t) = edgesOf s ++ edgesOf t := by simp [edgesOf]
theorem edgesOf_one (a b : P2) : edgesOf [(a, b)] = (edge? a b).toList := by
  unfold edgesOf
  cases h : edge? a b <;> simp [h]
/-- twice the area of the triangle a, b, p -/
def crs (a b p : P2) : Int := (b.1 - a.1) * (p.2 - a.2) - (b.2 - a.2) * (p.1 - a.1)
/-- what the side from a to b adds to the winding number at p -/
def addW (a b p : P2) : Int := if a.2 ≤ p.2 ∧ p.2 < b.2 ∧ 0 < crs a b p then 1 else if b.2 ≤ p.2 ∧ p.2 < a.2 ∧ crs a b p < 0 then -1 else 0
def sumI (l : List Int) : Int := l.foldr (· + ·) 0
theorem sumI_nil : sumI [] = 0 := rfl
theorem sumI_cons (a : Int) (l : List Int) : sumI (a :: l) = a + sumI l := rfl
theorem sumI_append (l m : List Int) : sumI (l ++ m) = sumI l + sumI m := by
  induction l with
  | nil => simp [sumI_nil]
  | cons a l ih => rw [List.cons_append, sumI_cons, sumI_cons, ih]; omega
theorem sumI_perm {l m : List Int} (h : l.Perm m) : sumI l = sumI m := by
  induction h with
  | nil => rfl
  | cons a _ ih => rw [sumI_cons, sumI_cons, ih]
  | swap a b l => rw [sumI_cons, sumI_cons, sumI_cons, sumI_cons]; omega
  | trans _ _ h1 h2 => rw [h1, h2]
def windS (s : List (P2 × P2)) (p : P2) : Int := sumI (s.map fun q => addW q.1 q.2 p)
def wind (l : List (List P2)) (p : P2) : Int := windS (l.flatMap sides) p
theorem windS_append (s t : List (P2 × P2)) (p : P2) : windS (s ++ t) p = windS s p + windS t p := by unfold windS; rw [List.map_append, sumI_append]
/-- the step of an edge in the row whose centers have the ordinate cy -/
def befE (e : Ed) (cy pitch : Int) : Int := -((-(e.1.1.1 * (e.1.2.2 - e.1.1.2) + (e.1.2.1 - e.1.1.1) * (cy - e.1.1.2) - pitch / 2 * (e.1.2.2 - e.1.1.2))) / (pitch * (e.1.2.2 - e.1.1.2)))
def act (e : Ed) (cy : Int) : Bool := decide (e.1.1.2 ≤ cy) && decide (cy < e.1.2.2)
def stepsR (E : List Ed) (cy pitch : Int) : List (Int × Int) := (E.filter (act · cy)).map fun e => (befE e cy pitch, e.2)
/-- the winding number that steps give to the cell x -/
def windT (S : List (Int × Int)) (x : Int) : Int := sumI (S.map fun s => if x < s.1 then s.2 else 0)
theorem windT_cons (s : Int × Int) (S : List (Int × Int)) (x : Int) : windT (s :: S) x = (if x < s.1 then s.2 else 0) + windT S x := rfl
theorem windT_append (S T : List (Int × Int)) (x : Int) : windT (S ++ T) x = windT S x + windT T x := by unfold windT; rw [List.map_append, sumI_append]
theorem windT_perm {S T : List (Int × Int)} (h : S.Perm T) (x : Int) : windT S x = windT T x := sumI_perm (h.map _)
theorem stepsR_perm {E F : List Ed} (h : E.Perm F) (cy pitch : Int) : (stepsR E cy pitch).Perm (stepsR F cy pitch) := (h.filter _).map _
theorem stepsR_append (E F : List Ed) (cy pitch : Int) : stepsR (E ++ F) cy pitch = stepsR E cy pitch ++ stepsR F cy pitch := by simp [stepsR]
theorem ceil_lt {x f d : Int} (hd : 0 < d) : x < -((-f) / d) ↔ x * d < f := by
  have h := Int.le_ediv_iff_mul_le (a := -x) (b := -f) hd
  have e : -x * d = -(x * d) := Int.neg_mul x d
  rw [e] at h
  constructor
  · intro h1
    apply Classical.byContradiction
    intro h2
    have := h.2 (by omega)
    omega
  · intro h1
    apply Classical.byContradiction
    intro h2
    have := h.1 (by omega)
    omega
/-- the center of a cell -/
def ctr (n pitch : Int) : Int := n * pitch + pitch / 2
theorem crs_swap (a b p : P2) : crs b a p = -crs a b p := by
  unfold crs
  simp only [Int.sub_mul, Int.mul_sub]
  have h1 := Int.mul_comm a.1 b.2
  have h2 := Int.mul_comm b.1 a.2
  have h3 := Int.mul_comm a.1 a.2
  have h4 := Int.mul_comm b.1 b.2
  have h5 := Int.mul_comm p.1 a.2
  have h6 := Int.mul_comm p.1 b.2
  have h7 := Int.mul_comm p.2 a.1
  have h8 := Int.mul_comm p.2 b.1
  omega
theorem bef_iff {e : Ed} {x cy pitch : Int} (hp : 0 < pitch) (hd : e.1.1.2 < e.1.2.2) : x < befE e cy pitch ↔ 0 < crs e.1.1 e.1.2 (ctr x pitch, cy) := by
  have hd' : 0 < e.1.2.2 - e.1.1.2 := by omega
  unfold befE
  rw [ceil_lt (Int.mul_pos hp hd')]
  unfold crs ctr
  generalize e.1.2.2 - e.1.1.2 = dy
  generalize e.1.2.1 - e.1.1.1 = dx
  generalize cy - e.1.1.2 = h
  generalize e.1.1.1 = lx
  have e1 : dy * (x * pitch + pitch / 2 - lx) = x * (pitch * dy) + pitch / 2 * dy - lx * dy := by
    rw [Int.mul_sub, Int.mul_add, Int.mul_comm dy (x * pitch), Int.mul_assoc, Int.mul_comm dy (pitch / 2), Int.mul_comm dy lx]
  simp only
  rw [e1]
  generalize x * (pitch * dy) = u
  generalize lx * dy = v
  generalize pitch / 2 * dy = t
  generalize dx * h = s
  omega
theorem edge_add (a b : P2) {x cy pitch : Int} (hp : 0 < pitch) : windT (stepsR (edge? a b).toList cy pitch) x = addW a b (ctr x pitch, cy) := by
  have hs := crs_swap a b (ctr x pitch, cy)
  unfold edge? addW
  split
  · rename_i h
    have hb := bef_iff (e := ((a, b), 1)) (x := x) (cy := cy) hp h
    simp only at hb ⊢
    by_cases h1 : a.2 ≤ cy ∧ cy < b.2
    · have e1 : stepsR (some (((a, b), 1) : Ed)).toList cy pitch = [(befE ((a, b), 1) cy pitch, 1)] := by simp [stepsR, act, h1]
      rw [e1, windT_cons]
      show (if _ then (1 : Int) else 0) + 0 = _
      by_cases h2 : 0 < crs a b (ctr x pitch, cy)
      · rw [if_pos (hb.2 h2), if_pos ⟨h1.1, h1.2, h2⟩]; rfl
      · rw [if_neg (fun h => h2 (hb.1 h)), if_neg (fun h => h2 h.2.2), if_neg (by omega)]; rfl
    · have e1 : stepsR (some (((a, b), 1) : Ed)).toList cy pitch = [] := by
        simp [stepsR, act]; omega
      rw [e1, if_neg (fun h => h1 ⟨h.1, h.2.1⟩), if_neg (by omega)]; rfl
  · split
    · rename_i h0 h
      have hb := bef_iff (e := ((b, a), -1)) (x := x) (cy := cy) hp h
      simp only at hb ⊢
      by_cases h1 : b.2 ≤ cy ∧ cy < a.2
      · have e1 : stepsR (some (((b, a), -1) : Ed)).toList cy pitch = [(befE ((b, a), -1) cy pitch, -1)] := by simp [stepsR, act, h1]
        rw [e1, windT_cons]
        show (if _ then (-1 : Int) else 0) + 0 = _
        by_cases h2 : crs a b (ctr x pitch, cy) < 0
        · rw [if_pos (hb.2 (by omega)), if_neg (by omega), if_pos ⟨h1.1, h1.2, h2⟩]; rfl
        · rw [if_neg (fun h => h2 (by have := hb.1 h; omega)), if_neg (by omega), if_neg (fun h => h2 h.2.2)]; rfl
      · have e1 : stepsR (some (((b, a), -1) : Ed)).toList cy pitch = [] := by
          simp [stepsR, act]; omega
        rw [e1, if_neg (by omega), if_neg (fun h => h1 ⟨h.1, h.2.1⟩)]; rfl
    · rw [if_neg (by simp only; omega), if_neg (by simp only; omega)]; rfl
theorem steps_wind (s : List (P2 × P2)) {x cy pitch : Int} (hp : 0 < pitch) : windT (stepsR (edgesOf s) cy pitch) x = windS s (ctr x pitch, cy) := by
  induction s with
  | nil => rfl
  | cons q s ih =>
    rw [show q :: s = [q] ++ s from rfl, edgesOf_append, stepsR_append, windT_append, windS_append, ih, show [q] = [(q.1, q.2)] from rfl, edgesOf_one, edge_add q.1 q.2 hp]
    show _ = sumI [_] + _
    rw [sumI_cons, sumI_nil]; simp
/-- the sweep along a row -/
def clampC (x : Int) : Int := max (-4096) (min x 4096)
def rstp (s : List Run × Int × Int) (t : Int × Int) : List Run × Int × Int :=
  (if 0 < s.2.1 ∧ clampC t.1 < s.2.2 then s.1 ++ [(clampC t.1, s.2.2)] else s.1, s.2.1 + t.2, clampC t.1)
def rowTo (S : List (Int × Int)) (k : Nat) : List Run × Int × Int := (S.take k).foldl rstp ([], 0, 4096)
def rowEnd (s : List Run × Int × Int) : List Run := if 0 < s.2.1 ∧ -4096 < s.2.2 then s.1 ++ [(-4096, s.2.2)] else s.1
theorem rowTo_succ {S : List (Int × Int)} {k : Nat} {t : Int × Int} (h : S[k]? = some t) : rowTo S (k + 1) = rstp (rowTo S k) t := by unfold rowTo; rw [List.take_add_one, h, List.foldl_append]; rfl
def RInv (S : List (Int × Int)) (pre suf : List (Int × Int)) (s : List Run × Int × Int) : Prop :=
  S = pre ++ suf ∧ -4096 ≤ s.2.2 ∧ s.2.2 ≤ 4096 ∧ s.2.1 = sumI (pre.map (·.2)) ∧ (∀ t ∈ pre, s.2.2 ≤ clampC t.1) ∧ (∀ r ∈ s.1, -4096 ≤ r.1 ∧ r.1 < r.2 ∧ r.2 ≤ 4096) ∧
  (s.1.length ≤ pre.length) ∧ ((s.2.2 = 4096 ∧ pre = []) ∨ ∃ u ∈ pre, s.2.2 = clampC u.1) ∧ ∀ x, -4096 ≤ x → x < 4096 → (mem s.1 x = true ↔ s.2.2 ≤ x ∧ 0 < windT S x)
theorem windT_all {S : List (Int × Int)} {x : Int} (h : ∀ t ∈ S, x < t.1) : windT S x = sumI (S.map (·.2)) := by
  induction S with
  | nil => rfl
  | cons s S ih => rw [windT_cons, if_pos (h s (by simp)), ih (fun t ht => h t (by simp [ht]))]; rfl
theorem windT_none {S : List (Int × Int)} {x : Int} (h : ∀ t ∈ S, t.1 ≤ x) : windT S x = 0 := by
  induction S with
  | nil => rfl
  | cons s S ih => rw [windT_cons, if_neg (by have := h s (by simp); omega), ih (fun t ht => h t (by simp [ht]))]; rfl
theorem mem_snoc1 (l : List Run) (r : Run) (x : Int) : mem (l ++ [r]) x = true ↔ mem l x = true ∨ (r.1 ≤ x ∧ x < r.2) := by
  rw [mem_append, Bool.or_eq_true]
  simp [mem, inR]
theorem rinv_step {S pre suf : List (Int × Int)} {s : List Run × Int × Int} {t : Int × Int} (h : RInv S pre (t :: suf) s) (hs : S.Pairwise (fun a b => b.1 ≤ a.1)) : RInv S (pre ++ [t]) suf (rstp s t) := by
  obtain ⟨h1, h2, h3, h4, h5, h6, h7, h9, h8⟩ := h
  have hc : -4096 ≤ clampC t.1 ∧ clampC t.1 ≤ 4096 := by unfold clampC; omega
  have hs' := hs
  rw [h1, List.pairwise_append] at hs
  have hlt : ∀ u ∈ suf, u.1 ≤ t.1 := (List.pairwise_cons.1 hs.2.1).1
  have hpre : ∀ u ∈ pre, t.1 ≤ u.1 := fun u hu => hs.2.2 u hu t (by simp)
  have hle : clampC t.1 ≤ s.2.2 := by
    rcases h9 with ⟨e, _⟩ | ⟨u, hu, e⟩
    · rw [e]; exact hc.2
    · have := hpre u hu
      rw [e]; unfold clampC; omega
  have hx : ∀ x, -4096 ≤ x → x < 4096 → (mem (rstp s t).1 x = true ↔ clampC t.1 ≤ x ∧ 0 < windT S x) := fun x hx1 hx2 => by
    have hm : mem (rstp s t).1 x = true ↔ mem s.1 x = true ∨ (0 < s.2.1 ∧ clampC t.1 ≤ x ∧ x < s.2.2) := by
      show mem (if _ then _ else _) x = true ↔ _
      split
      · rename_i hy
        rw [mem_snoc1]
        simp only
        constructor
        · rintro (h | h)
          · exact .inl h
          · exact .inr ⟨hy.1, h⟩
        · rintro (h | h)
          · exact .inl h
          · exact .inr h.2
      · rename_i hy
        constructor
        · exact .inl
        · rintro (h | h)
          · exact h
          · exact absurd ⟨h.1, by omega⟩ hy
    rw [hm, h8 x hx1 hx2]
    by_cases hr : s.2.2 ≤ x
    · constructor
      · rintro (h | h)
        · exact ⟨by omega, h.2⟩
        · omega
      · intro h
        exact .inl ⟨hr, h.2⟩
    · by_cases hl : clampC t.1 ≤ x
      · have hw : windT S x = s.2.1 := by
          rw [h1, windT_append, windT_all (S := pre) (fun u hu => by have := h5 u hu; unfold clampC at this; omega), windT_none (S := t :: suf), h4]
          · omega
          · intro u hu
            have : u.1 ≤ t.1 := by
              rcases List.mem_cons.1 hu with rfl | hu
              · omega
              · exact hlt u hu
            unfold clampC at hl; omega
        rw [hw]
        constructor
        · rintro (h | h)
          · omega
          · exact ⟨hl, h.1⟩
        · intro h
          exact .inr ⟨h.2, hl, by omega⟩
      · constructor
        · rintro (h | h) <;> omega
        · intro h; omega
  refine ⟨by rw [h1]; simp, hc.1, hc.2, ?_, ?_, ?_, ?_, .inr ⟨t, by simp, rfl⟩, hx⟩
  · show s.2.1 + t.2 = _
    rw [List.map_append, sumI_append, h4]
    show _ = _ + (t.2 + 0)
    omega
  · intro u hu
    rcases List.mem_append.1 hu with hu | hu
    · have := h5 u hu
      exact Int.le_trans hle this
    · simp at hu; subst hu; exact Int.le_refl _
  · intro r hr
    have hr : r ∈ (if 0 < s.2.1 ∧ clampC t.1 < s.2.2 then s.1 ++ [(clampC t.1, s.2.2)] else s.1) := hr
    split at hr
    · rename_i hy
      rcases List.mem_append.1 hr with hr | hr
      · exact h6 r hr
      · simp at hr; subst hr; exact ⟨hc.1, hy.2, h3⟩
    · exact h6 r hr
  · show (if _ then _ else _ : List Run).length ≤ _
    split <;> simp <;> omega
theorem rinv_start (S : List (Int × Int)) : RInv S [] S ([], 0, 4096) :=
  ⟨rfl, by decide, by decide, rfl, by simp, by simp, by simp, .inl ⟨rfl, rfl⟩, fun x h1 h2 => ⟨fun h => by simp [mem] at h, fun h => by have h3 : (4096 : Int) ≤ x := h.1; omega⟩⟩
theorem rowTo_inv {S : List (Int × Int)} (hs : S.Pairwise (fun a b => b.1 ≤ a.1)) : ∀ k, k ≤ S.length → RInv S (S.take k) (S.drop k) (rowTo S k)
  | 0, _ => by simpa [rowTo] using rinv_start S
  | k + 1, h => by
    have hk : k < S.length := h
    have ih := rowTo_inv hs k (Nat.le_of_lt hk)
    obtain ⟨t, ht⟩ : ∃ t, S[k]? = some t := ⟨_, List.getElem?_eq_getElem hk⟩
    rw [rowTo_succ ht, List.take_add_one, ht]
    have e : S.drop k = t :: S.drop (k + 1) := by
      rw [List.drop_eq_getElem_cons hk]
      have : S[k] = t := by rw [List.getElem?_eq_getElem hk] at ht; exact Option.some.inj ht
      rw [this]
    rw [e] at ih
    exact rinv_step ih hs
/-- the runs of a row, as the sweep leaves them -/
def rawRow (S : List (Int × Int)) : List Run := rowEnd (rowTo S S.length)
theorem rawRow_spec {S : List (Int × Int)} (hs : S.Pairwise (fun a b => b.1 ≤ a.1)) : (∀ r ∈ rawRow S, -4096 ≤ r.1 ∧ r.1 < r.2 ∧ r.2 ≤ 4096) ∧ (rawRow S).length ≤ S.length + 1 ∧ ∀ x, mem (rawRow S) x = true ↔ (-4096 ≤ x ∧ x < 4096) ∧ 0 < windT S x := by
  have h := rowTo_inv hs S.length (Nat.le_refl _)
  rw [List.take_length, List.drop_length] at h
  obtain ⟨h1, h2, h3, h4, h5, h6, h7, h9, h8⟩ := h
  have hr : ∀ r ∈ rawRow S, -4096 ≤ r.1 ∧ r.1 < r.2 ∧ r.2 ≤ 4096 := by
    intro r hr
    unfold rawRow rowEnd at hr
    split at hr
    · rename_i hy
      rcases List.mem_append.1 hr with hr | hr
      · exact h6 r hr
      · simp at hr; subst hr; exact ⟨Int.le_refl _, hy.2, h3⟩
    · exact h6 r hr
  refine ⟨hr, ?_, fun x => ?_⟩
  · unfold rawRow rowEnd
    split
    · rw [List.length_append]; exact Nat.succ_le_succ h7
    · exact Nat.le_succ_of_le h7
  by_cases hx : -4096 ≤ x ∧ x < 4096
  · have hm : mem (rawRow S) x = true ↔ mem (rowTo S S.length).1 x = true ∨ (0 < (rowTo S S.length).2.1 ∧ x < (rowTo S S.length).2.2) := by
      unfold rawRow rowEnd
      split
      · rename_i hy
        rw [mem_snoc1]
        simp only
        constructor
        · rintro (h | h)
          · exact .inl h
          · exact .inr ⟨hy.1, h.2⟩
        · rintro (h | h)
          · exact .inl h
          · exact .inr ⟨hx.1, h.2⟩
      · rename_i hy
        constructor
        · exact .inl
        · rintro (h | h)
          · exact h
          · exact absurd ⟨h.1, by omega⟩ hy
    rw [hm, h8 x hx.1 hx.2]
    by_cases hR : (rowTo S S.length).2.2 ≤ x
    · constructor
      · rintro (h | h)
        · exact ⟨hx, h.2⟩
        · omega
      · intro h
        exact .inl ⟨hR, h.2⟩
    · have hw : windT S x = (rowTo S S.length).2.1 := by
        rw [windT_all (fun u hu => by have := h5 u hu; unfold clampC at this; omega), h4]
      rw [hw]
      constructor
      · rintro (h | h)
        · omega
        · exact ⟨hx, h.1⟩
      · intro h
        exact .inr ⟨h.2, by omega⟩
  · constructor
    · intro h
      obtain ⟨r, h1, h2, h3⟩ := mem_iff.1 h
      have := hr r h1
      omega
    · intro h; exact absurd h.1 hx
/-- the runs of the row y -/
def rowW (E : List Ed) (pitch y : Int) : List Run := normal (rawRow (stepsR E (ctr y pitch) pitch))
end Ras
end Go.Proofs.YtneelidbgigehaaGreat

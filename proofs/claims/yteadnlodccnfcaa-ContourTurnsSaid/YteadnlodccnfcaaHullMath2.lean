/- The hull: the lower chain and the upper one; its edges, turns, ends. -/
import Derived.Test.YteadnlodccnfcaaHullMath
namespace Go.Proofs.Yteadnlodccnfcaa.Planar
set_option linter.unusedSimpArgs false
set_option linter.unusedVariables false
def neg (p : Pt) : Pt := (-p.1, -p.2)
theorem neg_neg (p : Pt) : neg (neg p) = p := by unfold neg; simp
theorem neg_inj {p q : Pt} : neg p = neg q ↔ p = q := ⟨fun h => by rw [← neg_neg p, h, neg_neg], fun h => by rw [h]⟩
theorem crs_negs (a b c : Pt) : crs (neg a) (neg b) (neg c) = crs a b c := by unfold crs neg; simp only; grind
theorem lx_neg {a b : Pt} : lx (neg a) (neg b) ↔ lx b a := by unfold lx neg; simp only; omega
theorem map_negs (l : List Pt) : (l.map neg).map neg = l := by rw [List.map_map]; exact (List.map_congr_left fun x _ => neg_neg x).trans (List.map_id' l)
theorem popR_neg (p : Pt) : ∀ s : List Pt, popR (neg p) (s.map neg) = (popR p s).map neg
  | [] => rfl
  | [_] => rfl
  | b :: a :: rest => by
    have ih := popR_neg p (a :: rest)
    simp only [List.map_cons] at ih ⊢
    simp only [popR, crs_negs]
    split
    · exact ih
    · rfl
theorem chR_neg (l : List Pt) : chR (l.map neg) = (chR l).map neg := by
  have key : ∀ (l s : List Pt), (l.map neg).foldl (fun s p => p :: popR p s) (s.map neg) = (l.foldl (fun s p => p :: popR p s) s).map neg := by
    intro l
    induction l with
    | nil => intro s; rfl
    | cons p l ih =>
      intro s
      simp only [List.map_cons, List.foldl_cons]
      rw [popR_neg]
      exact ih (p :: popR p s)
  exact key l []
theorem asc2_neg {l : List Pt} (h : Asc2 l) : Asc2 (l.reverse.map neg) := by
  unfold Asc2 at *
  rw [List.pairwise_map, List.pairwise_reverse]
  exact h.imp fun h => lx_neg.2 h
/-- the lower chain A and the upper one B, each with its end on top -/
structure Two (P : List Pt) (m M : Pt) (A B : List Pt) : Prop where
  lo : Ch P m M A
  up : Ch (P.map neg) (neg M) (neg m) (B.map neg)
  mn : ∀ q ∈ P, ¬ lx q m
  mx : ∀ q ∈ P, ¬ lx M q
theorem two_swap {P : List Pt} {m M : Pt} {A B : List Pt} (h : Two P m M A B) : Two (P.map neg) (neg M) (neg m) (B.map neg) (A.map neg) :=
  ⟨h.up, by rw [map_negs, neg_neg, neg_neg, map_negs]; exact h.lo, fun q hq => by
    obtain ⟨y, hy, rfl⟩ := List.mem_map.1 hq
    rw [lx_neg]; exact h.mx y hy, fun q hq => by
    obtain ⟨y, hy, rfl⟩ := List.mem_map.1 hq
    rw [lx_neg]; exact h.mn y hy⟩
theorem ch_perm {P Q : List Pt} {m M : Pt} {s : List Pt} (h : Ch P m M s) (hs : ∀ x ∈ s, x ∈ Q) (hQ : ∀ x ∈ Q, x ∈ P) : Ch Q m M s := by
  refine ⟨h.desc, hs, h.conv, ?_, h.top, h.bot⟩
  have key : ∀ s : List Pt, LeftAll P s → LeftAll Q s := by
    intro s
    induction s with
    | nil => intro _; trivial
    | cons b s ih =>
      intro h
      match s, h, ih with
      | [], _, _ => trivial
      | a :: r, h, ih => exact ⟨fun q hq => h.1 q (hQ q hq), ih h.2⟩
  exact key s h.left
theorem asc_min {T : List Pt} {m : Pt} (hT : Asc2 T) (h : T.head? = some m) : ∀ q ∈ T, ¬ lx q m := by
  intro q hq
  rcases T with _ | ⟨a, T⟩
  · cases h
  · have e : a = m := by simpa using h
    subst e
    rcases List.mem_cons.1 hq with rfl | hq
    · exact lx_irr _
    · exact lx_asym ((List.pairwise_cons.1 hT).1 q hq)
theorem asc_max {T : List Pt} {M : Pt} (hT : Asc2 T) (h : T.getLast? = some M) : ∀ q ∈ T, ¬ lx M q := by
  intro q hq
  obtain ⟨ys, rfl⟩ := List.getLast?_eq_some_iff.1 h
  have h3 := List.pairwise_append.1 hT
  rcases List.mem_append.1 hq with hq | hq
  · exact lx_asym (h3.2.2 q hq M (by simp))
  · rw [List.mem_singleton] at hq; subst hq; exact lx_irr _
theorem two_of {T : List Pt} {m M : Pt} (hT : Asc2 T) (h1 : T.head? = some m) (h2 : T.getLast? = some M) : Two T m M (chR T) (chR T.reverse) := by
  refine ⟨?_, ?_, asc_min hT h1, asc_max hT h2⟩
  · rcases T with _ | ⟨a, T⟩
    · cases h1
    · have e : a = m := by simpa using h1
      subst e
      obtain ⟨M', hM', hc⟩ := ch_all T a hT
      rw [h2] at hM'
      cases hM'
      exact hc
  · have h3 := asc2_neg hT
    have h4 : (T.reverse.map neg).head? = some (neg M) := by rw [List.head?_map, List.head?_reverse, h2]; rfl
    have h5 : (T.reverse.map neg).getLast? = some (neg m) := by rw [List.getLast?_map, List.getLast?_reverse, h1]; rfl
    rcases hR : T.reverse.map neg with _ | ⟨a, R⟩
    · rw [hR] at h4; cases h4
    · rw [hR] at h3 h4 h5
      have e : a = neg M := by simpa using h4
      subst e
      obtain ⟨M', hM', hc⟩ := ch_all R (neg M) h3
      rw [h5] at hM'
      cases hM'
      rw [← hR, chR_neg] at hc
      refine ch_perm hc (fun x hx => ?_) (fun x hx => ?_)
      · have := hc.sub_ x hx
        rw [List.mem_map] at this ⊢
        obtain ⟨y, hy, e⟩ := this
        exact ⟨y, List.mem_reverse.1 hy, e⟩
      · rw [List.mem_map] at hx ⊢
        obtain ⟨y, hy, e⟩ := hx
        exact ⟨y, List.mem_reverse.2 hy, e⟩
theorem conv_idx : ∀ {s : List Pt} {i : Nat} {b a z : Pt}, Conv s → s[i]? = some b → s[i + 1]? = some a → s[i + 2]? = some z → 0 < crs z a b
  | [], _, _, _, _, _, h, _, _ => by simp at h
  | [_], i, _, _, _, _, _, h, _ => by simp at h
  | [_, _], i, _, _, _, _, _, _, h => by simp at h
  | x :: y :: w :: r, 0, b, a, z, h, h1, h2, h3 => by
    simp at h1 h2 h3; subst h1 h2 h3; exact h.1
  | x :: y :: w :: r, i + 1, b, a, z, h, h1, h2, h3 => conv_idx (s := y :: w :: r) (i := i) h.2 (by simpa using h1) (by simpa using h2) (by simpa using h3)
theorem left_idx {P : List Pt} : ∀ {s : List Pt} {i : Nat} {b a : Pt}, LeftAll P s → s[i]? = some b → s[i + 1]? = some a → ∀ q ∈ P, 0 ≤ crs a b q
  | [], _, _, _, _, h, _ => by simp at h
  | [_], i, _, _, _, _, h => by simp at h
  | x :: y :: r, 0, b, a, h, h1, h2 => by
    simp at h1 h2; subst h1 h2; exact h.1
  | x :: y :: r, i + 1, b, a, h, h1, h2 => left_idx (s := y :: r) (i := i) h.2 (by simpa using h1) (by simpa using h2)
theorem desc_idx {s : List Pt} {i j : Nat} {b a : Pt} (h : Desc s) (hij : i < j) (h1 : s[i]? = some b) (h2 : s[j]? = some a) : lx a b := by
  obtain ⟨hi, rfl⟩ := List.getElem?_eq_some_iff.1 h1
  obtain ⟨hj, rfl⟩ := List.getElem?_eq_some_iff.1 h2
  exact List.pairwise_iff_getElem.1 h i j hi hj hij
theorem get_neg {s : List Pt} {i : Nat} {a : Pt} (h : s[i]? = some a) : (s.map neg)[i]? = some (neg a) := by rw [List.getElem?_map, h]; rfl
section
variable {P : List Pt} {m M : Pt} {A B : List Pt}
/-- facts on the upper chain, told of its own points -/
theorem two_up_left (h : Two P m M A B) {i : Nat} {b a : Pt} (h1 : B[i]? = some b) (h2 : B[i + 1]? = some a) : ∀ q ∈ P, 0 ≤ crs a b q := fun q hq => by
  have := left_idx h.up.left (get_neg h1) (get_neg h2) (neg q) (List.mem_map.2 ⟨q, hq, rfl⟩)
  rwa [crs_negs] at this
theorem two_up_conv (h : Two P m M A B) {i : Nat} {b a z : Pt} (h1 : B[i]? = some b) (h2 : B[i + 1]? = some a) (h3 : B[i + 2]? = some z) : 0 < crs z a b := by
  have := conv_idx h.up.conv (get_neg h1) (get_neg h2) (get_neg h3)
  rwa [crs_negs] at this
theorem two_up_lt (h : Two P m M A B) {i j : Nat} {b a : Pt} (hij : i < j) (h1 : B[i]? = some b) (h2 : B[j]? = some a) : lx b a :=
  lx_neg.1 (desc_idx h.up.desc hij (get_neg h1) (get_neg h2))
theorem two_up_mem (h : Two P m M A B) {i : Nat} {b : Pt} (h1 : B[i]? = some b) : b ∈ P := by
  have := h.up.sub_ (neg b) (List.mem_of_getElem? (get_neg h1))
  obtain ⟨y, hy, e⟩ := List.mem_map.1 this
  rw [neg_inj] at e
  rw [← e]; exact hy
theorem two_lo_mem (h : Two P m M A B) {i : Nat} {b : Pt} (h1 : A[i]? = some b) : b ∈ P := h.lo.sub_ b (List.mem_of_getElem? h1)
theorem last_idx {s : List Pt} {x : Pt} (h : s.getLast? = some x) : ∃ n, s.length = n + 1 ∧ s[n]? = some x := by
  obtain ⟨ys, rfl⟩ := List.getLast?_eq_some_iff.1 h
  exact ⟨ys.length, by simp, by simp⟩
theorem two_lo_top (h : Two P m M A B) : A[0]? = some M := by rw [← List.head?_eq_getElem?]; exact h.lo.top
theorem two_up_top (h : Two P m M A B) : B[0]? = some m := by
  have h1 := h.up.top
  rw [List.head?_map] at h1
  rw [← List.head?_eq_getElem?]
  cases hb : B.head? with
  | none => rw [hb] at h1; cases h1
  | some b => rw [hb] at h1; simp only [Option.map_some, Option.some.injEq] at h1; rw [neg_inj] at h1; rw [h1]
theorem two_up_bot (h : Two P m M A B) : B.getLast? = some M := by
  have h1 := h.up.bot
  rw [List.getLast?_map] at h1
  cases hb : B.getLast? with
  | none => rw [hb] at h1; cases h1
  | some b => rw [hb] at h1; simp only [Option.map_some, Option.some.injEq] at h1; rw [neg_inj] at h1; rw [h1]
/-- where the two chains meet they turn left, or all points lie on one line -/
theorem joint (h : Two P m M A B) {p r : Nat} (hp : A.length = p + 1 + 1) (hr : B.length = r + 1 + 1) {a c : Pt} (ha : A[1]? = some a) (hc : B[r]? = some c) : 0 < crs a M c ∨ (p = 0 ∧ r = 0) := by
  have hM := two_lo_top h
  have hMb : B[r + 1]? = some M := by
    obtain ⟨n, e, hn⟩ := last_idx (two_up_bot h)
    rw [show r + 1 = n by omega]; exact hn
  have haM : lx a M := desc_idx h.lo.desc (by omega) hM ha
  have hcM : lx c M := two_up_lt h (by omega) hc hMb
  have e1 := left_idx h.lo.left hM ha
  have e2 := two_up_left h hc hMb
  by_cases hz : 0 < crs a M c
  · exact .inl hz
  · right
    have h0 : crs a M c = 0 := by have := e1 c (two_up_mem h hc); omega
    have g3 : crs a M c = -cx (sub M a) (sub M c) := by unfold crs cx sub; grind
    have g4 : cx (sub M c) (sub M a) = -cx (sub M a) (sub M c) := by unfold cx; grind
    have hcol : ∀ q ∈ P, lx q M → cx (sub M a) (sub M q) = 0 := fun q hq hl => by
      have f1 := e1 q hq
      have f2 := e2 q hq
      have k1 : crs a M q = -cx (sub M a) (sub M q) := by unfold crs cx sub; grind
      have k2 : crs M c q = cx (sub M c) (sub M q) := by unfold crs cx sub; grind
      have := cx_trans (pos_sub haM) (pos_sub hcM) (pos_sub hl) (by omega) (by omega)
      omega
    constructor
    · apply Classical.byContradiction
      intro hp0
      obtain ⟨z, hz2⟩ : ∃ z, A[2]? = some z := ⟨_, List.getElem?_eq_getElem (by omega)⟩
      have h3 := conv_idx h.lo.conv hM ha hz2
      have hzM : lx z M := desc_idx h.lo.desc (by omega) hM hz2
      have h4 := hcol z (two_lo_mem h hz2) hzM
      have k1 : crs z a M = -cx (sub M a) (sub M z) := by unfold crs cx sub; grind
      omega
    · apply Classical.byContradiction
      intro hr0
      obtain ⟨z, hz2⟩ : ∃ z, B[r - 1]? = some z := ⟨_, List.getElem?_eq_getElem (by omega)⟩
      have h3 := two_up_conv h (i := r - 1) hz2 (by rw [show r - 1 + 1 = r by omega]; exact hc) (by rw [show r - 1 + 2 = r + 1 by omega]; exact hMb)
      have hzM : lx z M := two_up_lt h (by omega : r - 1 < r + 1) hz2 hMb
      have h4 := hcol z (two_up_mem h hz2) hzM
      have k1 : crs M c z = cx (sub M c) (sub M z) := by unfold crs cx sub; grind
      have k2 : cx (sub M z) (sub M c) = -cx (sub M c) (sub M z) := by unfold cx; grind
      have k3 : cx (sub M z) (sub M a) = -cx (sub M a) (sub M z) := by unfold cx; grind
      have k4 := cx_trans (pos_sub hzM) (pos_sub haM) (pos_sub hcM) (by omega) (by omega)
      omega
end
/-- the hull of points that ascend strictly -/
def hullR (T : List Pt) : List Pt := if T.length < 2 then T else (chR T).tail.reverse ++ (chR T.reverse).tail.reverse
/-- the closed way along the hull, place by place -/
def wayAt (A B : List Pt) (i : Nat) : Option Pt := if i < A.length - 1 then A[A.length - 1 - i]? else B[A.length - 1 + (B.length - 1) - i]?
section
variable {P : List Pt} {m M : Pt} {A B : List Pt} {p r : Nat}
theorem tail_rev_get {s : List Pt} {n i : Nat} (h : s.length = n + 1) (hi : i < n) : (s.tail.reverse)[i]? = s[n - i]? := by
  rw [List.getElem?_reverse (by rw [List.length_tail]; omega), List.length_tail, List.getElem?_tail]
  congr 1
  omega
theorem hull_get (hA : A.length = p + 1) (hB : B.length = r + 1) {i : Nat} (hi : i < p + r) : (A.tail.reverse ++ B.tail.reverse)[i]? = wayAt A B i := by
  unfold wayAt
  rw [hA, hB]
  by_cases h : i < p
  · rw [List.getElem?_append_left (by rw [List.length_reverse, List.length_tail]; omega), tail_rev_get hA h, if_pos (by omega)]
    congr 1
  · rw [List.getElem?_append_right (by rw [List.length_reverse, List.length_tail]; omega), List.length_reverse, List.length_tail, hA, tail_rev_get hB (by omega), if_neg (by omega)]
    congr 1
    omega
theorem way_end (h : Two P m M A B) (hA : A.length = p + 1) (hB : B.length = r + 1) : wayAt A B (p + r) = some m := by
  unfold wayAt
  rw [hA, hB, if_neg (by omega), show p + 1 - 1 + (r + 1 - 1) - (p + r) = 0 by omega]
  exact two_up_top h
theorem way_start (h : Two P m M A B) (hA : A.length = p + 1) (hp : 0 < p) : wayAt A B 0 = some m := by
  obtain ⟨n, e, hn⟩ := last_idx h.lo.bot
  unfold wayAt
  rw [hA, if_pos (by omega), show p + 1 - 1 - 0 = n by omega]
  exact hn
theorem way_mid (h : Two P m M A B) (hA : A.length = p + 1) (hB : B.length = r + 1) : wayAt A B p = some M := by
  obtain ⟨n, e, hn⟩ := last_idx (two_up_bot h)
  unfold wayAt
  rw [hA, hB, if_neg (by omega), show p + 1 - 1 + (r + 1 - 1) - p = n by omega]
  exact hn
/-- the way's places, told of the chains -/
theorem way_lo (h : Two P m M A B) (hA : A.length = p + 1) (hB : B.length = r + 1) {i : Nat} (hi : i ≤ p) : wayAt A B i = A[p - i]? := by
  rcases Nat.lt_or_ge i p with h1 | h1
  · unfold wayAt; rw [hA, if_pos (by omega)]; congr 1
  · have e : i = p := by omega
    subst e
    rw [way_mid h hA hB, Nat.sub_self, two_lo_top h]
theorem way_up (hA : A.length = p + 1) (hB : B.length = r + 1) {i : Nat} (hi : p ≤ i) : wayAt A B i = B[p + r - i]? := by
  unfold wayAt; rw [hA, hB, if_neg (by omega)]; congr 1
theorem way_edge (h : Two P m M A B) (hA : A.length = p + 1) (hB : B.length = r + 1) {i : Nat} (hi : i < p + r) {a b : Pt} (ha : wayAt A B i = some a) (hb : wayAt A B (i + 1) = some b) :
    (∀ q ∈ P, 0 ≤ crs a b q) ∧ a ∈ P ∧ b ∈ P ∧ a ≠ b := by
  by_cases hp : i < p
  · rw [way_lo h hA hB (by omega)] at ha hb
    have h1 : A[p - (i + 1) + 1]? = some a := by rw [show p - (i + 1) + 1 = p - i by omega]; exact ha
    refine ⟨left_idx h.lo.left hb h1, two_lo_mem h ha, two_lo_mem h hb, ?_⟩
    have := desc_idx h.lo.desc (by omega : p - (i + 1) < p - (i + 1) + 1) hb h1
    rintro rfl; exact lx_irr _ this
  · rw [way_up hA hB (by omega)] at ha hb
    have h1 : B[p + r - (i + 1) + 1]? = some a := by rw [show p + r - (i + 1) + 1 = p + r - i by omega]; exact ha
    refine ⟨two_up_left h hb h1, two_up_mem h ha, two_up_mem h hb, ?_⟩
    have := two_up_lt h (by omega : p + r - (i + 1) < p + r - (i + 1) + 1) hb h1
    rintro rfl; exact lx_irr _ this
theorem way_turn (h : Two P m M A B) (hA : A.length = p + 1) (hB : B.length = r + 1) (hp0 : 0 < p) (hr0 : 0 < r) {i : Nat} (hi : i + 2 ≤ p + r) {a b c : Pt} (ha : wayAt A B i = some a) (hb : wayAt A B (i + 1) = some b) (hc : wayAt A B (i + 2) = some c) :
    0 < crs a b c ∨ p + r = 2 := by
  by_cases h1 : i + 2 ≤ p
  · left
    rw [way_lo h hA hB (by omega)] at ha hb hc
    exact conv_idx h.lo.conv hc (by rw [show p - (i + 2) + 1 = p - (i + 1) by omega]; exact hb) (by rw [show p - (i + 2) + 2 = p - i by omega]; exact ha)
  · by_cases h2 : p ≤ i
    · left
      rw [way_up hA hB (by omega)] at ha hb hc
      exact two_up_conv h hc (by rw [show p + r - (i + 2) + 1 = p + r - (i + 1) by omega]; exact hb) (by rw [show p + r - (i + 2) + 2 = p + r - i by omega]; exact ha)
    · have e : i + 1 = p := by omega
      rw [way_lo h hA hB (by omega), show p - i = 1 by omega] at ha
      rw [e, way_mid h hA hB] at hb
      rw [way_up hA hB (by omega), show p + r - (i + 2) = r - 1 by omega] at hc
      cases hb
      rcases joint h (p := p - 1) (r := r - 1) (by omega) (by omega) ha hc with h3 | h3
      · exact .inl h3
      · right; omega
/-- the turn at the least point -/
theorem way_turn0 (h : Two P m M A B) (hA : A.length = p + 1) (hB : B.length = r + 1) (hp0 : 0 < p) (hr0 : 0 < r) {a c : Pt} (ha : wayAt A B (p + r - 1) = some a) (hc : wayAt A B 1 = some c) :
    0 < crs a m c ∨ p + r = 2 := by
  rw [way_up hA hB (by omega), show p + r - (p + r - 1) = 1 by omega] at ha
  rw [way_lo h hA hB (by omega)] at hc
  have h2 := joint (two_swap h) (p := r - 1) (r := p - 1) (by rw [List.length_map]; omega) (by rw [List.length_map]; omega) (get_neg ha) (get_neg hc)
  rw [crs_negs] at h2
  rcases h2 with h2 | h2
  · exact .inl h2
  · right; omega
end
/-- the strictly ascending list of a set of points is one alone -/
theorem asc2_ext : ∀ {a b : List Pt}, Asc2 a → Asc2 b → (∀ x, x ∈ a ↔ x ∈ b) → a = b
  | [], [], _, _, _ => rfl
  | [], y :: b, _, _, h => by have := (h y).2 (by simp); simp at this
  | x :: a, [], _, _, h => by have := (h x).1 (by simp); simp at this
  | x :: a, y :: b, ha, hb, h => by
    have ha' := List.pairwise_cons.1 ha
    have hb' := List.pairwise_cons.1 hb
    have e : x = y := by
      rcases List.mem_cons.1 ((h x).1 (by simp)) with e | h1
      · exact e
      · rcases List.mem_cons.1 ((h y).2 (by simp)) with e | h2
        · exact e.symm
        · exact absurd (ha'.1 y h2) (lx_asym (hb'.1 x h1))
    subst e
    congr 1
    refine asc2_ext ha'.2 hb'.2 fun z => ?_
    constructor
    · intro hz
      rcases List.mem_cons.1 ((h z).1 (List.mem_cons_of_mem _ hz)) with rfl | h1
      · exact absurd (ha'.1 z hz) (lx_irr _)
      · exact h1
    · intro hz
      rcases List.mem_cons.1 ((h z).2 (List.mem_cons_of_mem _ hz)) with rfl | h1
      · exact absurd (hb'.1 z hz) (lx_irr _)
      · exact h1
end Go.Proofs.Yteadnlodccnfcaa.Planar

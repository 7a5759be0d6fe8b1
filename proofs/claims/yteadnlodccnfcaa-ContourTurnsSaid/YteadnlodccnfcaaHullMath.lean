/- The chain of points sorted by X, then Y: turning left, with all points on its left; such a chain is unique. -/
import Derived.Test.YteadnlodccnfcaaPlanarMath
namespace Go.Proofs.Yteadnlodccnfcaa.Planar
set_option linter.unusedSimpArgs false
set_option linter.unusedVariables false
def cx (u v : Pt) : Int := u.1 * v.2 - u.2 * v.1
def sub (a b : Pt) : Pt := (a.1 - b.1, a.2 - b.2)
/-- ahead of the other one by X, then Y -/
def lx (a b : Pt) : Prop := a.1 < b.1 ∨ a.1 = b.1 ∧ a.2 < b.2
def posv (u : Pt) : Prop := 0 < u.1 ∨ u.1 = 0 ∧ 0 < u.2
theorem pos_sub {a b : Pt} (h : lx a b) : posv (sub b a) := by unfold lx at h; unfold posv sub; simp only; omega
theorem lx_tri (a b : Pt) : lx a b ∨ a = b ∨ lx b a := by
  unfold lx
  rcases Int.lt_trichotomy a.1 b.1 with h | h | h
  · exact .inl (.inl h)
  · rcases Int.lt_trichotomy a.2 b.2 with h2 | h2 | h2
    · exact .inl (.inr ⟨h, h2⟩)
    · exact .inr (.inl (Prod.ext h h2))
    · exact .inr (.inr (.inr ⟨h.symm, h2⟩))
  · exact .inr (.inr (.inl h))
theorem lx_irr (a : Pt) : ¬ lx a a := by unfold lx; omega
theorem lx_trans {a b c : Pt} (h : lx a b) (h2 : lx b c) : lx a c := by unfold lx at *; omega
theorem lx_asym {a b : Pt} (h : lx a b) : ¬ lx b a := by unfold lx at *; omega
theorem cx_id (x y z : Pt) : y.1 * cx x z = x.1 * cx y z + z.1 * cx x y := by unfold cx; grind
theorem mul_neg' {a b : Int} (ha : 0 < a) (hb : b < 0) : a * b < 0 := by
  have := Int.mul_pos ha (show 0 < -b by omega)
  rw [Int.mul_neg] at this; omega
theorem cx_trans {x y z : Pt} (hx : posv x) (hy : posv y) (hz : posv z) (h1 : 0 ≤ cx x y) (h2 : 0 ≤ cx y z) : 0 ≤ cx x z := by
  have hx0 : 0 ≤ x.1 := by unfold posv at hx; omega
  have hz0 : 0 ≤ z.1 := by unfold posv at hz; omega
  rcases hy with hy | ⟨hy, hy2⟩
  · have e := cx_id x y z
    have a1 := Int.mul_nonneg hx0 h2
    have a2 := Int.mul_nonneg hz0 h1
    apply Classical.byContradiction
    intro hc
    have := mul_neg' hy (show cx x z < 0 by omega)
    omega
  · have e : cx y z = -(y.2 * z.1) := by unfold cx; rw [hy]; omega
    have hz1 : z.1 = 0 := by
      apply Classical.byContradiction
      intro hc
      have := Int.mul_pos hy2 (show 0 < z.1 by omega)
      omega
    have hz2 : 0 < z.2 := by unfold posv at hz; omega
    have e2 : cx x z = x.1 * z.2 := by unfold cx; rw [hz1]; omega
    rw [e2]
    exact Int.mul_nonneg hx0 (by omega)
theorem cx_strict {x y z : Pt} (hx : posv x) (hy : posv y) (hz : posv z) (h1 : 0 < cx x y) (h2 : 0 ≤ cx y z) : 0 < cx x z := by
  have hx0 : 0 ≤ x.1 := by unfold posv at hx; omega
  have hz0 : 0 ≤ z.1 := by unfold posv at hz; omega
  have hy0 : 0 ≤ y.1 := by unfold posv at hy; omega
  have hx1 : 0 < x.1 := by
    apply Classical.byContradiction
    intro hc
    have e0 : x.1 = 0 := by omega
    have hx2 : 0 < x.2 := by unfold posv at hx; omega
    have e : cx x y = -(x.2 * y.1) := by unfold cx; rw [e0]; omega
    have := Int.mul_nonneg (show 0 ≤ x.2 by omega) hy0
    omega
  by_cases hz1 : z.1 = 0
  · have hz2 : 0 < z.2 := by unfold posv at hz; omega
    have e2 : cx x z = x.1 * z.2 := by unfold cx; rw [hz1]; omega
    rw [e2]
    exact Int.mul_pos hx1 hz2
  · have hzp : 0 < z.1 := by omega
    have hyp : 0 < y.1 := by
      apply Classical.byContradiction
      intro hc
      have e0 : y.1 = 0 := by omega
      have hy2 : 0 < y.2 := by unfold posv at hy; omega
      have e : cx y z = -(y.2 * z.1) := by unfold cx; rw [e0]; omega
      have := Int.mul_pos hy2 hzp
      omega
    have e := cx_id x y z
    have a1 := Int.mul_nonneg hx0 h2
    have a2 := Int.mul_pos hzp h1
    apply Classical.byContradiction
    intro hc
    have := Int.mul_nonneg (show 0 ≤ y.1 by omega) (show 0 ≤ -(cx x z) by omega)
    rw [Int.mul_neg] at this
    omega
theorem crs_cx (a b c : Pt) : crs a b c = cx (sub b a) (sub c b) := by unfold crs cx sub; grind
theorem crs_cx0 (a b c : Pt) : crs a b c = cx (sub b a) (sub c a) := by unfold crs cx sub; grind
theorem crs_self (a b : Pt) : crs a b b = 0 := by unfold crs; grind
theorem crs_first (a b : Pt) : crs a b a = 0 := by unfold crs; grind
theorem crs_neg (a b c : Pt) : crs a b c = -crs a c b := by unfold crs; grind
theorem crs_rot (a b c : Pt) : crs a b c = crs b c a := by unfold crs; grind
/-- pops, and the chain; the list's head is the top -/
def popR (p : Pt) : List Pt → List Pt
  | b :: a :: rest => if crs a b p ≤ 0 then popR p (a :: rest) else b :: a :: rest
  | s => s
def chR (l : List Pt) : List Pt := l.foldl (fun s p => p :: popR p s) []
def Desc (s : List Pt) : Prop := s.Pairwise fun x y => lx y x
def Conv : List Pt → Prop
  | b :: a :: z :: rest => 0 < crs z a b ∧ Conv (a :: z :: rest)
  | _ => True
def LeftAll (P : List Pt) : List Pt → Prop
  | b :: a :: rest => (∀ q ∈ P, 0 ≤ crs a b q) ∧ LeftAll P (a :: rest)
  | _ => True
theorem desc_tail {b : Pt} {s : List Pt} (h : Desc (b :: s)) : Desc s := (List.pairwise_cons.1 h).2
theorem desc_lt {b a : Pt} {s : List Pt} (h : Desc (b :: a :: s)) : lx a b := (List.pairwise_cons.1 h).1 a (by simp)
theorem conv_tail {b : Pt} {s : List Pt} (h : Conv (b :: s)) : Conv s := by
  match s, h with
  | [], _ => trivial
  | [_], _ => trivial
  | a :: z :: r, h => exact h.2
theorem leftAll_tail {P : List Pt} {b : Pt} {s : List Pt} (h : LeftAll P (b :: s)) : LeftAll P s := by
  match s, h with
  | [], _ => trivial
  | a :: r, h => exact h.2
/-- what is known of the top: no point lies behind it, or the edge that it had leads to a point from which p does not turn left -/
def TopOk (P : List Pt) (p a : Pt) : Prop := (∀ q ∈ P, ¬ lx a q) ∨ ∃ b, lx a b ∧ (∀ q ∈ P, 0 ≤ crs a b q) ∧ crs a b p ≤ 0
theorem popR_spec {P : List Pt} {p : Pt} : ∀ (a : Pt) (s : List Pt), Desc (a :: s) → Conv (a :: s) → LeftAll P (a :: s) → TopOk P p a →
    ∃ (c : Pt) (t : List Pt), popR p (a :: s) = c :: t ∧ Desc (c :: t) ∧ Conv (c :: t) ∧ LeftAll P (c :: t) ∧ TopOk P p c ∧ (∀ x ∈ c :: t, x ∈ a :: s) ∧ (c :: t).getLast? = (a :: s).getLast? ∧ (∀ z r, t = z :: r → 0 < crs z c p) := by
  intro a s
  induction s generalizing a with
  | nil => intro h1 h2 h3 h4; exact ⟨a, [], rfl, h1, h2, h3, h4, fun x hx => hx, rfl, fun z r e => by cases e⟩
  | cons z s ih =>
    intro h1 h2 h3 h4
    by_cases hc : crs z a p ≤ 0
    · obtain ⟨c, t, e, d1, d2, d3, d4, d5, d6, d7⟩ := ih z (desc_tail h1) (conv_tail h2) (leftAll_tail h3) (.inr ⟨a, desc_lt h1, h3.1, hc⟩)
      refine ⟨c, t, by simp only [popR, if_pos hc]; exact e, d1, d2, d3, d4, fun x hx => List.mem_cons_of_mem _ (d5 x hx), ?_, d7⟩
      rw [d6]; simp
    · exact ⟨a, z :: s, by simp only [popR, if_neg hc], h1, h2, h3, h4, fun x hx => hx, rfl, fun z' r e => by injection e with e1 e2; subst e1; omega⟩
/-- the new point is on the left of all edges of the chain -/
theorem left_new {p : Pt} : ∀ (a : Pt) (t : List Pt), Desc (a :: t) → Conv (a :: t) → lx a p → (∀ z r, t = z :: r → 0 < crs z a p) → ∀ (P : List Pt), LeftAll P (a :: t) → LeftAll (P ++ [p]) (a :: t) := by
  intro a t
  induction t generalizing a with
  | nil => intro _ _ _ _ P _; trivial
  | cons z t ih =>
    intro h1 h2 h3 h4 P h5
    have hz := h4 z t rfl
    refine ⟨fun q hq => ?_, ih z (desc_tail h1) (conv_tail h2) (lx_trans (desc_lt h1) h3) (fun y r e => ?_) P (leftAll_tail h5)⟩
    · rcases List.mem_append.1 hq with hq | hq
      · exact h5.1 q hq
      · rw [List.mem_singleton] at hq; subst hq; omega
    · subst e
      have h6 : 0 < crs y z a := h2.1
      have hyz := desc_lt (desc_tail h1)
      have hza := desc_lt h1
      rw [crs_cx] at h6 ⊢
      rw [crs_cx0] at hz
      exact cx_strict (pos_sub hyz) (pos_sub hza) (pos_sub (lx_trans hza h3)) h6 (by omega)
/-- all points are on the left of the new edge -/
theorem edge_new {P : List Pt} {p a : Pt} {t : List Pt} (h1 : Desc (a :: t)) (h3 : LeftAll P (a :: t)) (h4 : TopOk P p a) (h5 : ∀ z r, t = z :: r → 0 < crs z a p) (hm : ∀ m, (a :: t).getLast? = some m → ∀ q ∈ P, ¬ lx q m) (hp : lx a p) (hP : ∀ q ∈ P, lx q p) :
    ∀ q ∈ P ++ [p], 0 ≤ crs a p q := by
  intro q hq
  rcases List.mem_append.1 hq with hq | hq
  · rcases lx_tri q a with h | h | h
    · rcases t with _ | ⟨z, r⟩
      · exact absurd h (hm a rfl q hq)
      · have h6 := h5 z r rfl
        have h7 := h3.1 q hq
        have hza := desc_lt h1
        have e1 : crs z a q = cx (sub a q) (sub a z) := by unfold crs cx sub; grind
        have e2 : crs a p q = cx (sub a q) (sub p a) := by unfold crs cx sub; grind
        rw [e1] at h7
        rw [crs_cx] at h6
        rw [e2]
        exact cx_trans (pos_sub h) (pos_sub hza) (pos_sub hp) h7 (by omega)
    · subst h; rw [crs_first]; exact Int.le_refl _
    · rcases h4 with h4 | ⟨b, hb, hb1, hb2⟩
      · exact absurd h (h4 q hq)
      · have h7 := hb1 q hq
        rw [crs_cx0] at h7 ⊢
        have e1 : crs a b p = -cx (sub p a) (sub b a) := by unfold crs cx sub; grind
        rw [e1] at hb2
        exact cx_trans (pos_sub hp) (pos_sub hb) (pos_sub h) (by omega) h7
  · rw [List.mem_singleton] at hq; subst hq; rw [crs_self]; exact Int.le_refl _
/-- a chain over the points P from the least one m to the greatest one M -/
structure Ch (P : List Pt) (m M : Pt) (s : List Pt) : Prop where
  desc : Desc s
  sub_ : ∀ x ∈ s, x ∈ P
  conv : Conv s
  left : LeftAll P s
  top : s.head? = some M
  bot : s.getLast? = some m
theorem ch_step {P : List Pt} {m M p : Pt} {s : List Pt} (h : Ch P m M s) (hm : ∀ q ∈ P, ¬ lx q m) (hM : ∀ q ∈ P, ¬ lx M q) (hp : ∀ q ∈ P, lx q p) : Ch (P ++ [p]) m p (p :: popR p s) := by
  obtain ⟨h1, h2, h3, h4, h5, h6⟩ := h
  rcases s with _ | ⟨a, s⟩
  · cases h5
  · have ea : a = M := by simpa using h5
    subst ea
    obtain ⟨c, t, e, d1, d2, d3, d4, d5, d6, d7⟩ := popR_spec a s h1 h3 h4 (.inl hM)
    have hcp : lx c p := hp c (h2 c (d5 c (by simp)))
    have hlast : (c :: t).getLast? = some m := d6.trans h6
    have hed := edge_new d1 d3 d4 d7 (fun m' hm' => by rw [hlast] at hm'; cases hm'; exact hm) hcp hp
    rw [e]
    refine ⟨List.pairwise_cons.2 ⟨fun x hx => hp x (h2 x (d5 x hx)), d1⟩, fun x hx => ?_, ?_, ⟨hed, left_new c t d1 d2 hcp d7 P d3⟩, rfl, by rw [← hlast]; simp⟩
    · rcases List.mem_cons.1 hx with rfl | hx
      · simp
      · exact List.mem_append_left _ (h2 x (d5 x hx))
    · match t, d2, d7 with
      | [], _, _ => trivial
      | z :: r, d2, d7 => exact ⟨d7 z r rfl, d2⟩
def Asc2 (l : List Pt) : Prop := l.Pairwise lx
theorem ch_all : ∀ (l : List Pt) (m : Pt), Asc2 (m :: l) → ∃ M, (m :: l).getLast? = some M ∧ Ch (m :: l) m M (chR (m :: l)) := by
  intro l m
  have key : ∀ (l : List Pt), Asc2 (m :: l.reverse) → ∃ M, (m :: l.reverse).getLast? = some M ∧ Ch (m :: l.reverse) m M (chR (m :: l.reverse)) := by
    intro l
    induction l with
    | nil => intro _; exact ⟨m, rfl, ⟨by simp [chR, popR, Desc], fun x hx => by simpa [chR, popR] using hx, trivial, trivial, rfl, rfl⟩⟩
    | cons p l ih =>
      intro h
      rw [List.reverse_cons, ← List.cons_append] at h ⊢
      have hs := List.pairwise_append.1 h
      obtain ⟨M, hM, hch⟩ := ih hs.1
      have hp : ∀ q ∈ m :: l.reverse, lx q p := fun q hq => hs.2.2 q hq p (by simp)
      have hmin : ∀ q ∈ m :: l.reverse, ¬ lx q m := fun q hq => by
        rcases List.mem_cons.1 hq with rfl | hq
        · exact lx_irr _
        · exact lx_asym ((List.pairwise_cons.1 hs.1).1 q hq)
      have hmax : ∀ q ∈ m :: l.reverse, ¬ lx M q := fun q hq => by
        obtain ⟨ys, e⟩ := List.getLast?_eq_some_iff.1 hM
        have h3 := List.pairwise_append.1 (e ▸ hs.1 : List.Pairwise lx (ys ++ [M]))
        rw [e] at hq
        rcases List.mem_append.1 hq with hq | hq
        · exact lx_asym (h3.2.2 q hq M (by simp))
        · rw [List.mem_singleton] at hq; subst hq; exact lx_irr _
      refine ⟨p, List.getLast?_eq_some_iff.2 ⟨m :: l.reverse, rfl⟩, ?_⟩
      have e : chR (m :: l.reverse ++ [p]) = p :: popR p (chR (m :: l.reverse)) := by unfold chR; rw [List.foldl_append]; rfl
      rw [e]
      exact ch_step hch hmin hmax hp
  intro h
  have := key l.reverse (by rw [List.reverse_reverse]; exact h)
  rwa [List.reverse_reverse] at this
/-- there is one such chain alone -/
theorem bot_le {m : Pt} : ∀ {s : List Pt}, Desc s → s.getLast? = some m → ∀ x ∈ s, x = m ∨ lx m x
  | [], _, h => by cases h
  | [a], _, h => fun x hx => by
    have e : a = m := by simpa using h
    have e2 : x = a := by simpa using hx
    exact .inl (e2.trans e)
  | a :: b :: s, hd, h => fun x hx => by
    have h2 : (b :: s).getLast? = some m := by rw [← h]; simp
    have ih := bot_le (desc_tail hd) h2
    rcases List.mem_cons.1 hx with rfl | hx
    · rcases ih b (by simp) with rfl | h3
      · exact .inr (desc_lt hd)
      · exact .inr (lx_trans h3 (desc_lt hd))
    · exact ih x hx
theorem ch_same {P : List Pt} {m b a1 a2 : Pt} {r1 r2 : List Pt} (h1 : Desc (b :: a1 :: r1)) (h2 : Desc (b :: a2 :: r2)) (s1 : ∀ x ∈ b :: a1 :: r1, x ∈ P) (s2 : ∀ x ∈ b :: a2 :: r2, x ∈ P) (c2 : Conv (b :: a2 :: r2))
    (l1 : LeftAll P (b :: a1 :: r1)) (l2 : LeftAll P (b :: a2 :: r2)) (b1 : (b :: a1 :: r1).getLast? = some m) (b2 : (b :: a2 :: r2).getLast? = some m) : ¬ lx a1 a2 := by
  intro hlt
  have e1 := l1.1 a2 (s2 a2 (by simp))
  have e2 := l2.1 a1 (s1 a1 (by simp))
  have e3 : crs a2 b a1 = -crs a1 b a2 := by unfold crs; grind
  rcases r2 with _ | ⟨c, r2⟩
  · have hm : a2 = m := by simpa using b2
    rcases bot_le h1 b1 a1 (by simp) with h | h
    · rw [h, hm] at hlt; exact lx_irr _ hlt
    · rw [← hm] at h; exact lx_asym h hlt
  · have e4 : 0 < crs c a2 b := c2.1
    have e5 := l2.2.1 a1 (s1 a1 (by simp))
    have hca := desc_lt (desc_tail h2)
    have hab := desc_lt h2
    rw [crs_cx] at e4
    have e6 : crs c a2 a1 = -cx (sub a2 c) (sub a2 a1) := by unfold crs cx sub; grind
    have e7 : cx (sub b a2) (sub a2 a1) = crs a1 b a2 := by unfold crs cx sub; grind
    have := cx_strict (pos_sub hca) (pos_sub hab) (pos_sub hlt) e4 (by rw [e7]; exact e1)
    omega
theorem ch_unique {P : List Pt} {m : Pt} : ∀ (s1 s2 : List Pt) (M : Pt), Ch P m M s1 → Ch P m M s2 → s1 = s2 := by
  intro s1
  induction s1 with
  | nil => intro s2 M h1; exact absurd h1.top (by simp)
  | cons b r1 ih =>
    intro s2 M h1 h2
    rcases s2 with _ | ⟨b', r2⟩
    · exact absurd h2.top (by simp)
    · have e1 : b = M := by simpa using h1.top
      have e2 : b' = M := by simpa using h2.top
      subst e1
      subst e2
      rcases r1 with _ | ⟨a1, r1⟩ <;> rcases r2 with _ | ⟨a2, r2⟩
      · rfl
      · have hm : b' = m := by simpa using h1.bot
        rcases bot_le h2.desc h2.bot a2 (by simp) with h | h
        · have := desc_lt h2.desc
          rw [h, hm] at this; exact absurd this (lx_irr _)
        · rw [← hm] at h; exact absurd (desc_lt h2.desc) (lx_asym h)
      · have hm : b' = m := by simpa using h2.bot
        rcases bot_le h1.desc h1.bot a1 (by simp) with h | h
        · have := desc_lt h1.desc
          rw [h, hm] at this; exact absurd this (lx_irr _)
        · rw [← hm] at h; exact absurd (desc_lt h1.desc) (lx_asym h)
      · have n1 := ch_same h1.desc h2.desc h1.sub_ h2.sub_ h2.conv h1.left h2.left h1.bot h2.bot
        have n2 := ch_same h2.desc h1.desc h2.sub_ h1.sub_ h1.conv h2.left h1.left h2.bot h1.bot
        have e : a1 = a2 := by
          rcases lx_tri a1 a2 with h | h | h
          · exact absurd h n1
          · exact h
          · exact absurd h n2
        subst e
        have b1 : (a1 :: r1).getLast? = some m := by rw [← h1.bot]; simp
        have b2 : (a1 :: r2).getLast? = some m := by rw [← h2.bot]; simp
        have := ih (a1 :: r2) a1 ⟨desc_tail h1.desc, fun x hx => h1.sub_ x (List.mem_cons_of_mem _ hx), conv_tail h1.conv, leftAll_tail h1.left, rfl, b1⟩ ⟨desc_tail h2.desc, fun x hx => h2.sub_ x (List.mem_cons_of_mem _ hx), conv_tail h2.conv, leftAll_tail h2.left, rfl, b2⟩
        rw [this]
end Go.Proofs.Yteadnlodccnfcaa.Planar

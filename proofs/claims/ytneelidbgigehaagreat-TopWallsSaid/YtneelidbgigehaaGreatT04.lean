/- Lemmas: TrcPl. -/
import Derived.Test.YtneelidbgigehaaGreatT02
import Derived.Test.YtneelidbgigehaaGreatT03
/- The boundary of a set of cells in plain words: cracks, loops, and that the walk takes every crack once. (joined: TrcMath TrcRows) -/
/- The boundary of a set of cells in plain words: cracks, loops, and that the walk takes every crack once. -/
namespace Go.Proofs.YtneelidbgigehaaGreat
set_option linter.unusedSimpArgs false
set_option linter.unusedVariables false
namespace Trc
abbrev Pt := Int × Int
/-- a crack: where it begins, and its direction (0 is +X, 1 is +Y, 2 is -X, 3 is -Y) -/
abbrev Ck := Pt × Int
def fromP (h : Int) (p : Pt) : Pt := if h = 0 then (p.1 + 1, p.2) else if h = 1 then (p.1, p.2 + 1) else if h = 2 then (p.1 - 1, p.2) else (p.1, p.2 - 1)
def lcP (p : Pt) (h : Int) : Pt := if h = 0 then (p.1, p.2) else if h = 1 then (p.1 - 1, p.2) else if h = 2 then (p.1 - 1, p.2 - 1) else (p.1, p.2 - 1)
def rcP (p : Pt) (h : Int) : Pt := if h = 0 then (p.1, p.2 - 1) else if h = 1 then (p.1, p.2) else if h = 2 then (p.1 - 1, p.2) else (p.1 - 1, p.2 - 1)
def lf (h : Int) : Int := (h + 1) % 4
def rt (h : Int) : Int := (h + 3) % 4
/-- the cracks of a set of cells -/
def crk (S : Pt → Bool) (p : Pt) (h : Int) : Bool := decide (0 ≤ h ∧ h < 4) && S (lcP p h) && !S (rcP p h)
/-- the direction behind a crack that ends at q -/
def nxH (S : Pt → Bool) (q : Pt) (h : Int) : Int := if crk S q (lf h) then lf h else if crk S q h then h else rt h
def nx (S : Pt → Bool) (c : Ck) : Ck := (fromP c.2 c.1, nxH S (fromP c.2 c.1) c.2)
theorem crk_h {S : Pt → Bool} {p : Pt} {h : Int} (hc : crk S p h = true) : h = 0 ∨ h = 1 ∨ h = 2 ∨ h = 3 := by
  unfold crk at hc; simp at hc; omega
theorem from_ne (h : Int) (p : Pt) : fromP h p ≠ p := by
  unfold fromP
  intro e
  split at e
  · have := congrArg Prod.fst e; simp at this; omega
  split at e
  · have := congrArg Prod.snd e; simp at this; omega
  split at e
  · have := congrArg Prod.fst e; simp at this; omega
  · have := congrArg Prod.snd e; simp at this; omega
theorem nx_ok {S : Pt → Bool} {p : Pt} {h : Int} (hc : crk S p h = true) : crk S (fromP h p) (nxH S (fromP h p) h) = true := by
  obtain ⟨x, y⟩ := p
  rcases crk_h hc with rfl | rfl | rfl | rfl <;> unfold crk at hc <;> simp [lcP, rcP] at hc <;>
    simp [nxH, crk, lf, rt, fromP, lcP, rcP, hc]
  · cases h1 : S (x + 1, y) <;> cases h2 : S (x + 1, y - 1) <;> simp [h1, h2, hc]
  · cases h1 : S (x, y + 1) <;> cases h2 : S (x - 1, y + 1) <;> simp [h1, h2, hc]
  · cases h1 : S (x - 1 - 1, y) <;> cases h2 : S (x - 1 - 1, y - 1) <;> simp [h1, h2, hc]
  · cases h1 : S (x, y - 1 - 1) <;> cases h2 : S (x - 1, y - 1 - 1) <;> simp [h1, h2, hc]
/-- what a crack that ends at q says of the cells around q -/
theorem inc {S : Pt → Bool} {p q : Pt} {h : Int} (hc : crk S p h = true) (hq : fromP h p = q) :
    (h = 0 ∧ p = (q.1 - 1, q.2) ∧ S (q.1 - 1, q.2) = true ∧ S (q.1 - 1, q.2 - 1) = false) ∨
    (h = 1 ∧ p = (q.1, q.2 - 1) ∧ S (q.1 - 1, q.2 - 1) = true ∧ S (q.1, q.2 - 1) = false) ∨
    (h = 2 ∧ p = (q.1 + 1, q.2) ∧ S (q.1, q.2 - 1) = true ∧ S (q.1, q.2) = false) ∨
    (h = 3 ∧ p = (q.1, q.2 + 1) ∧ S (q.1, q.2) = true ∧ S (q.1 - 1, q.2) = false) := by
  obtain ⟨x, y⟩ := p
  subst hq
  rcases crk_h hc with rfl | rfl | rfl | rfl <;> unfold crk at hc <;> simp [lcP, rcP] at hc <;> simp [fromP, hc]
/-- no two cracks lead on to the same one -/
theorem nx_inj {S : Pt → Bool} {c d : Ck} (hc : crk S c.1 c.2 = true) (hd : crk S d.1 d.2 = true) (e : nx S c = nx S d) : c = d := by
  obtain ⟨p, h⟩ := c
  obtain ⟨p', h'⟩ := d
  unfold nx at e
  simp only [Prod.mk.injEq] at e hc hd
  obtain ⟨e1, e2⟩ := e
  obtain ⟨q, hq⟩ : ∃ q, fromP h p = q := ⟨_, rfl⟩
  rw [hq] at e1 e2
  rw [← e1] at e2
  obtain ⟨x, y⟩ := q
  rcases inc hc hq with ⟨rfl, rfl, a1, a2⟩ | ⟨rfl, rfl, a1, a2⟩ | ⟨rfl, rfl, a1, a2⟩ | ⟨rfl, rfl, a1, a2⟩ <;>
  rcases inc hd e1.symm with ⟨rfl, rfl, b1, b2⟩ | ⟨rfl, rfl, b1, b2⟩ | ⟨rfl, rfl, b1, b2⟩ | ⟨rfl, rfl, b1, b2⟩ <;>
  first
  | rfl
  | (exfalso
     simp only at a1 a2 b1 b2
     simp [nxH, crk, lf, rt, lcP, rcP, a1, a2, b1, b2] at e2
     done)
  | (exfalso
     simp only at a1 a2 b1 b2
     first | (rw [a1] at b2; cases b2) | (rw [b1] at a2; cases a2)
     done)
/-- the cracks left at a corner -/
def hdR (R : List Ck) (p : Pt) : List Int := (R.filter fun c => c.1 = p).map (·.2)
theorem hdR_mem {R : List Ck} {p : Pt} {h : Int} : h ∈ hdR R p ↔ (p, h) ∈ R := by
  unfold hdR
  simp only [List.mem_map, List.mem_filter, decide_eq_true_eq]
  constructor
  · rintro ⟨c, ⟨h1, h2⟩, rfl⟩; rw [← h2]; exact h1
  · intro h1; exact ⟨_, ⟨h1, rfl⟩, rfl⟩
theorem hdR_snoc (R : List Ck) (p q : Pt) (h : Int) : hdR (R ++ [(p, h)]) q = if q = p then hdR R q ++ [h] else hdR R q := by
  unfold hdR
  rw [List.filter_append, List.map_append]
  by_cases e : q = p
  · subst e; simp
  · rw [if_neg e]; simp [Ne.symm e]
theorem hdR_erase {R : List Ck} {p : Pt} {h : Int} (q : Pt) : hdR (R.erase (p, h)) q = if q = p then (hdR R q).erase h else hdR R q := by
  induction R with
  | nil => simp [hdR]
  | cons c R ih =>
    rw [List.erase_cons]
    by_cases e : c == (p, h)
    · rw [if_pos e]
      obtain rfl := eq_of_beq e
      by_cases eq : q = p
      · subst eq; simp [hdR]
      · rw [if_neg eq]; simp [hdR, Ne.symm eq]
    · rw [if_neg e]
      by_cases eq : q = p
      · subst eq
        simp only [if_true] at ih ⊢
        by_cases e1 : c.1 = q
        · have : c.2 ≠ h := fun e2 => e (by obtain ⟨a, b⟩ := c; simp at e1 e2 ⊢; exact ⟨e1, e2⟩)
          have hh : ∀ L : List Ck, hdR (c :: L) q = c.2 :: hdR L q := fun L => by simp [hdR, e1]
          rw [hh, hh, ih, List.erase_cons_tail (by simpa using this)]
        · have hh : ∀ L : List Ck, hdR (c :: L) q = hdR L q := fun L => by simp [hdR, e1]
          rw [hh, hh, ih]
      · simp only [if_neg eq] at ih ⊢
        by_cases e1 : c.1 = q
        · have hh : ∀ L : List Ck, hdR (c :: L) q = c.2 :: hdR L q := fun L => by simp [hdR, e1]
          rw [hh, hh, ih]
        · have hh : ∀ L : List Ck, hdR (c :: L) q = hdR L q := fun L => by simp [hdR, e1]
          rw [hh, hh, ih]
/-- the direction chosen among what is left at q -/
def pick (R : List Ck) (q : Pt) (h : Int) : Option Int := if lf h ∈ hdR R q then some (lf h) else if h ∈ hdR R q then some h else if rt h ∈ hdR R q then some (rt h) else none
/-- the walk along a loop, as it is made -/
def walkP : Nat → List Ck → Pt → Pt → Int → List Pt → List Pt × List Ck
  | 0, R, _, _, _, acc => (acc, R)
  | n + 1, R, s, p, h, acc =>
    if h ∈ hdR R p then
      if fromP h p = s then (acc, R.erase (p, h))
      else match pick (R.erase (p, h)) (fromP h p) h with
        | none => walkP n (R.erase (p, h)) s (fromP h p) h acc
        | some g => walkP n (R.erase (p, h)) s (fromP h p) g (if g ≠ h then acc ++ [fromP h p] else acc)
    else (acc, R)
/-- what an edge adds to the winding number of the cell (x, y) -/
def bel (y : Int) (p : Pt) : Int := if y < p.2 then 1 else 0
def stepN (h : Int) : Nat → Pt → Pt
  | 0, p => p
  | k + 1, p => fromP h (stepN h k p)
/-- a leg of a loop: where it begins, its direction, how many cracks it has -/
abbrev Leg := Pt × Int × Nat
def legC (l : Leg) : List Ck := (List.range l.2.2).map fun j => (stepN l.2.1 j l.1, l.2.1)
def trail (L : List Leg) : List Ck := L.flatMap legC
theorem legC_succ (a : Pt) (h : Int) (k : Nat) : legC (a, h, k + 1) = legC (a, h, k) ++ [(stepN h k a, h)] := by
  simp [legC, List.range_succ]
theorem trail_snoc (L : List Leg) (l : Leg) : trail (L ++ [l]) = trail L ++ legC l := by simp [trail]
def Chn (S : Pt → Bool) (L : List Leg) : Prop := ∀ (i : Nat) (x y : Leg), L[i]? = some x → L[i + 1]? = some y → y.1 = stepN x.2.1 x.2.2 x.1 ∧ 0 < x.2.2 ∧ y.2.1 = nxH S y.1 x.2.1
theorem chn_one (S : Pt → Bool) (x : Leg) : Chn S [x] := fun i a b h1 h2 => by simp at h2
theorem chn_len {S : Pt → Bool} {ls : List Leg} {c : Pt} {h : Int} {k k' : Nat} (hc : Chn S (ls ++ [(c, h, k)])) : Chn S (ls ++ [(c, h, k')]) := by
  intro i x y h1 h2
  have hi : i + 1 < (ls ++ [(c, h, k')]).length := (List.getElem?_eq_some_iff.1 h2).1
  simp at hi
  rw [List.getElem?_append_left (by omega)] at h1
  by_cases e : i + 1 < ls.length
  · rw [List.getElem?_append_left e] at h2
    exact hc i x y (by rw [List.getElem?_append_left (by omega)]; exact h1) (by rw [List.getElem?_append_left e]; exact h2)
  · have e2 : i + 1 = ls.length := by omega
    rw [List.getElem?_append_right (by omega), e2] at h2
    simp at h2
    subst h2
    exact hc i x (c, h, k) (by rw [List.getElem?_append_left (by omega)]; exact h1) (by rw [List.getElem?_append_right (by omega), e2]; simp)
theorem chn_snoc {S : Pt → Bool} {ls : List Leg} {x y : Leg} (hc : Chn S (ls ++ [x])) (h : y.1 = stepN x.2.1 x.2.2 x.1 ∧ 0 < x.2.2 ∧ y.2.1 = nxH S y.1 x.2.1) : Chn S ((ls ++ [x]) ++ [y]) := by
  intro i a b h1 h2
  have hi : i + 1 < ((ls ++ [x]) ++ [y]).length := (List.getElem?_eq_some_iff.1 h2).1
  simp at hi
  rw [List.getElem?_append_left (by simp; omega)] at h1
  by_cases e : i + 1 < (ls ++ [x]).length
  · rw [List.getElem?_append_left e] at h2
    exact hc i a b h1 h2
  · simp at e
    have e2 : i = ls.length := by omega
    subst e2
    rw [List.getElem?_append_right (by simp)] at h2
    simp at h1 h2
    subst h1 h2
    exact h
/-- a closed loop of cracks of S -/
structure Loop (S : Pt → Bool) (L : List Leg) : Prop where
  chn : Chn S L
  cl : ∀ x y, L.head? = some x → L.getLast? = some y → x.1 = stepN y.2.1 y.2.2 y.1 ∧ 0 < y.2.2 ∧ x.2.1 = nxH S x.1 y.2.1
  ne : L ≠ []
  ck : ∀ c ∈ trail L, crk S c.1 c.2 = true
theorem pick_is {S : Pt → Bool} {R : List Ck} {q : Pt} {h : Int} (hR : ∀ c ∈ R, crk S c.1 c.2 = true) (hn : (q, nxH S q h) ∈ R) : pick R q h = some (nxH S q h) := by
  unfold pick
  have hk : ∀ g, g ∈ hdR R q → crk S q g = true := fun g hg => hR _ (hdR_mem.1 hg)
  by_cases h1 : lf h ∈ hdR R q
  · rw [if_pos h1]; unfold nxH; rw [if_pos (hk _ h1)]
  · rw [if_neg h1]
    have e1 : crk S q (lf h) = false := by
      cases e : crk S q (lf h) with
      | false => rfl
      | true => exact absurd (hdR_mem.2 (by unfold nxH at hn; rw [if_pos e] at hn; exact hn)) h1
    by_cases h2 : h ∈ hdR R q
    · rw [if_pos h2]; unfold nxH; rw [e1, if_neg (by simp), if_pos (hk _ h2)]
    · rw [if_neg h2]
      have e2 : crk S q h = false := by
        cases e : crk S q h with
        | false => rfl
        | true => exact absurd (hdR_mem.2 (by unfold nxH at hn; rw [e1, if_neg (by simp), if_pos e] at hn; exact hn)) h2
      have e3 : nxH S q h = rt h := by unfold nxH; rw [e1, e2]; simp
      rw [e3] at hn ⊢
      rw [if_pos (hdR_mem.2 hn)]
theorem walk_spec (S : Pt → Bool) (s : Pt) (h0 : Int) : ∀ (n : Nat) (R : List Ck) (p : Pt) (h : Int) (ls : List Leg) (c : Pt) (k : Nat),
    R.length ≤ n → R.Nodup → (∀ c ∈ R, crk S c.1 c.2 = true) → (∀ c ∈ R, nx S c ∈ R ∨ nx S c = (s, h0)) → (∀ g, (s, g) ∈ R → g = h0) → ((p, h) = (s, h0) ∨ ((∀ c ∈ R, nx S c ≠ (p, h)) ∧ ∀ g, (s, g) ∉ R)) → (p, h) ∈ R →
    p = stepN h k c → Chn S (ls ++ [(c, h, k)]) →
    ∃ T L R', walkP n R s p h ((ls ++ [(c, h, k)]).map (·.1)) = (L.map (·.1), R') ∧ trail L = trail (ls ++ [(c, h, k)]) ++ T ∧ R.Perm (T ++ R') ∧ (∀ c ∈ R', nx S c ∈ R') ∧ (∀ g, (s, g) ∉ R') ∧ Chn S L ∧
      L.head?.map (fun x => (x.1, x.2.1)) = (ls ++ [(c, h, k)]).head?.map (fun x => (x.1, x.2.1)) ∧ (∀ y, L.getLast? = some y → s = stepN y.2.1 y.2.2 y.1 ∧ 0 < y.2.2 ∧ h0 = nxH S s y.2.1) := by
  intro n
  induction n with
  | zero =>
    intro R p h ls c k hl _ _ _ _ _ hm
    have : R = [] := List.eq_nil_of_length_eq_zero (by omega)
    rw [this] at hm; simp at hm
  | succ n ih =>
    intro R p h ls c k hl hnd hck hcl hs hpre hm hp hch
    have hpk := hck _ hm
    have hnx : nx S (p, h) = (fromP h p, nxH S (fromP h p) h) := rfl
    have hlen : (R.erase (p, h)).length ≤ n := by rw [List.length_erase_of_mem hm]; omega
    have hsub : ∀ c, c ∈ R.erase (p, h) → c ∈ R := fun c hc => List.mem_of_mem_erase hc
    have hne : ∀ c, c ∈ R.erase (p, h) → c ≠ (p, h) := fun c hc e => by
      rw [e] at hc; exact (List.Nodup.not_mem_erase hnd) hc
    have hin : ∀ c, c ∈ R → c ≠ (p, h) → c ∈ R.erase (p, h) := fun c hc e => (List.mem_erase_of_ne e).2 hc
    have hperm : R.Perm ((p, h) :: R.erase (p, h)) := List.perm_cons_erase hm
    have hck' : ∀ c ∈ R.erase (p, h), crk S c.1 c.2 = true := fun c hc => hck c (hsub c hc)
    have hch2 : Chn S (ls ++ [(c, h, k + 1)]) := chn_len hch
    have hst : stepN h (k + 1) c = fromP h p := by show fromP h (stepN h k c) = _; rw [← hp]
    have htr : trail (ls ++ [(c, h, k + 1)]) = trail (ls ++ [(c, h, k)]) ++ [(p, h)] := by
      rw [trail_snoc, trail_snoc, legC_succ, ← hp, List.append_assoc]
    unfold walkP
    rw [if_pos (hdR_mem.2 hm)]
    by_cases hstop : fromP h p = s
    · rw [if_pos hstop]
      have hnxs : nx S (p, h) = (s, h0) := by
        rcases hcl _ hm with h1 | h1
        · rw [hnx, hstop] at h1 ⊢
          rw [hs _ h1]
        · exact h1
      refine ⟨[(p, h)], ls ++ [(c, h, k + 1)], R.erase (p, h), by simp, htr, hperm, fun d hd => ?_, fun g hg => ?_, hch2, ?_, fun y hy => ?_⟩
      · rcases hcl d (hsub d hd) with h1 | h1
        · refine hin _ h1 (fun e => ?_)
          rcases hpre with e1 | e1
          · exact hne d hd (nx_inj (hck d (hsub d hd)) hpk (e.trans (e1.trans hnxs.symm)))
          · exact e1.1 d (hsub d hd) e
        · exact absurd (nx_inj (hck d (hsub d hd)) hpk (by rw [h1, hnxs])) (hne d hd)
      · rcases hpre with e1 | e1
        · exact from_ne h p (hstop.trans (congrArg Prod.fst e1).symm)
        · exact e1.2 g (hsub _ hg)
      · cases ls <;> simp
      · simp at hy
        subst hy
        refine ⟨by rw [← hstop]; exact hst.symm, Nat.succ_pos _, ?_⟩
        rw [hnx, hstop] at hnxs
        exact (congrArg Prod.snd hnxs).symm
    · rw [if_neg hstop]
      have hq : (fromP h p, nxH S (fromP h p) h) ∈ R.erase (p, h) := by
        rcases hcl _ hm with h1 | h1
        · exact hin _ h1 (fun e => from_ne h p (congrArg Prod.fst e))
        · exact absurd (congrArg Prod.fst h1) hstop
      rw [pick_is hck' hq]
      simp only
      have hcl' : ∀ d ∈ R.erase (p, h), nx S d ∈ R.erase (p, h) ∨ nx S d = (s, h0) := fun d hd => by
        rcases hcl d (hsub d hd) with h1 | h1
        · by_cases e : nx S d = (p, h)
          · rcases hpre with e1 | e1
            · right; rw [e, e1]
            · exact absurd e (e1.1 d (hsub d hd))
          · exact .inl (hin _ h1 e)
        · exact .inr h1
      have hpre' : (fromP h p, nxH S (fromP h p) h) = (s, h0) ∨ ((∀ d ∈ R.erase (p, h), nx S d ≠ (fromP h p, nxH S (fromP h p) h)) ∧ ∀ g, (s, g) ∉ R.erase (p, h)) :=
        .inr ⟨fun d hd e => hne d hd (nx_inj (hck d (hsub d hd)) hpk e), fun g hg => by
          rcases hpre with e1 | e1
          · have hg0 := hs g (hsub _ hg)
            subst hg0
            exact hne _ hg e1.symm
          · exact e1.2 g (hsub _ hg)⟩
      have hs' : ∀ g, (s, g) ∈ R.erase (p, h) → g = h0 := fun g hg => hs g (hsub _ hg)
      by_cases htn : nxH S (fromP h p) h = h
      · rw [htn] at hq hpre' ⊢
        obtain ⟨T, L, R', r1, r2, r3, r4, r5, r6, r7, r8⟩ := ih (R.erase (p, h)) (fromP h p) h ls c (k + 1) hlen (hnd.erase _) hck' hcl' hs' hpre' hq hst.symm hch2
        refine ⟨(p, h) :: T, L, R', ?_, ?_, ?_, r4, r5, r6, ?_, r8⟩
        · rw [if_neg (by simp)]
          simpa using r1
        · rw [r2, htr, List.append_assoc]; rfl
        · exact hperm.trans (by simpa using r3.cons (p, h))
        · rw [r7]; cases ls <;> simp
      · obtain ⟨T, L, R', r1, r2, r3, r4, r5, r6, r7, r8⟩ := ih (R.erase (p, h)) (fromP h p) (nxH S (fromP h p) h) (ls ++ [(c, h, k + 1)]) (fromP h p) 0 hlen (hnd.erase _) hck' hcl' hs' hpre' hq rfl
          (chn_snoc hch2 ⟨hst.symm, Nat.succ_pos _, rfl⟩)
        refine ⟨(p, h) :: T, L, R', ?_, ?_, ?_, r4, r5, r6, ?_, r8⟩
        · rw [if_pos htn]
          simpa using r1
        · rw [r2, trail_snoc, htr]; simp [legC]
        · exact hperm.trans (by simpa using r3.cons (p, h))
        · rw [r7]; cases ls <;> simp
/-- corners by Y, then X -/
def ltP (a b : Pt) : Prop := a.2 < b.2 ∨ (a.2 = b.2 ∧ a.1 < b.1)
def traceP : List Pt → List Ck → List (List Pt)
  | [], _ => []
  | p :: cs, R => match hdR R p with
    | [] => traceP cs R
    | h :: _ => (walkP R.length R p p h [p]).1 :: traceP cs (walkP R.length R p p h [p]).2
theorem least_one {S : Pt → Bool} {R : List Ck} {p : Pt} (hck : ∀ c ∈ R, crk S c.1 c.2 = true) (hcl : ∀ c ∈ R, nx S c ∈ R) (hle : ∀ c ∈ R, ¬ ltP c.1 p) {h g : Int} (h1 : (p, h) ∈ R) (h2 : (p, g) ∈ R) : h = g := by
  have key : ∀ h, (p, h) ∈ R → h = 0 ∨ h = 1 := fun h hm => by
    have hn := hle _ (hcl _ hm)
    rcases crk_h (hck _ hm) with rfl | rfl | rfl | rfl
    · exact .inl rfl
    · exact .inr rfl
    · exfalso; apply hn; right; simp [nx, fromP]; omega
    · exfalso; apply hn; left; simp [nx, fromP]; omega
  have e1 := hck _ h1
  have e2 := hck _ h2
  rcases key h h1 with rfl | rfl <;> rcases key g h2 with rfl | rfl
  · rfl
  · simp [crk, lcP, rcP] at e1 e2; rw [e1.1] at e2; simp at e2
  · simp [crk, lcP, rcP] at e1 e2; rw [e2.1] at e1; simp at e1
  · rfl
theorem head_leg {L : List Leg} {s : Pt} {h0 : Int} (h : L.head?.map (fun x => (x.1, x.2.1)) = some (s, h0)) : ∃ k l, L = (s, h0, k) :: l := by
  cases L with
  | nil => simp at h
  | cons x l =>
    obtain ⟨a, b, c⟩ := x
    simp at h
    obtain ⟨rfl, rfl⟩ := h
    exact ⟨_, _, rfl⟩
theorem loop_of {S : Pt → Bool} {R : List Ck} {p : Pt} {h : Int} (hnd : R.Nodup) (hck : ∀ c ∈ R, crk S c.1 c.2 = true) (hcl : ∀ c ∈ R, nx S c ∈ R) (hle : ∀ c ∈ R, ¬ ltP c.1 p) (hm : (p, h) ∈ R) :
    ∃ L R', walkP R.length R p p h [p] = (L.map (·.1), R') ∧ Loop S L ∧ R.Perm (trail L ++ R') ∧ (∀ c ∈ R', nx S c ∈ R') ∧ ∀ g, (p, g) ∉ R' := by
  obtain ⟨T, L, R', r1, r2, r3, r4, r5, r6, r7, r8⟩ := walk_spec S p h R.length R p h [] p 0 (Nat.le_refl _) hnd hck (fun c hc => .inl (hcl c hc)) (fun g hg => least_one hck hcl hle hg hm) (.inl rfl) hm rfl (chn_one S _)
  have e0 : trail ([] ++ [((p, h, 0) : Leg)]) = [] := by simp [trail, legC]
  rw [e0, List.nil_append] at r2
  subst r2
  simp only [List.nil_append, List.head?_cons, Option.map_some] at r7
  obtain ⟨k, l, hL⟩ := head_leg r7
  refine ⟨L, R', by simpa using r1, ⟨r6, fun x y hx hy => ?_, by rw [hL]; simp, fun c hc => hck c (r3.mem_iff.2 (List.mem_append_left _ hc))⟩, r3, r4, r5⟩
  rw [hL] at hx
  simp at hx
  subst hx
  exact r8 y hy
theorem perm_closed {S : Pt → Bool} {R R' T : List Ck} (hp : R.Perm (T ++ R')) (hnd : R.Nodup) (hck : ∀ c ∈ R, crk S c.1 c.2 = true) : R'.Nodup ∧ (∀ c ∈ R', c ∈ R) := by
  have := hp.nodup_iff.1 hnd
  rw [List.nodup_append] at this
  exact ⟨this.2.1, fun c hc => hp.mem_iff.2 (List.mem_append_right _ hc)⟩
theorem trace_spec (S : Pt → Bool) : ∀ (cs : List Pt) (R : List Ck), cs.Pairwise ltP → R.Nodup → (∀ c ∈ R, crk S c.1 c.2 = true) → (∀ c ∈ R, nx S c ∈ R) → (∀ c ∈ R, c.1 ∈ cs) →
    ∃ Ls : List (List Leg), traceP cs R = Ls.map (fun L => L.map (·.1)) ∧ (∀ L ∈ Ls, Loop S L) ∧ R.Perm (Ls.flatMap trail) := by
  intro cs
  induction cs with
  | nil =>
    intro R _ _ _ _ hin
    have : R = [] := List.eq_nil_iff_forall_not_mem.2 fun c hc => by simpa using hin c hc
    subst this
    exact ⟨[], rfl, by simp, by simp⟩
  | cons p cs ih =>
    intro R hpw hnd hck hcl hin
    have hle : ∀ c ∈ R, ¬ ltP c.1 p := fun c hc e => by
      have hlt := (List.pairwise_cons.1 hpw).1
      rcases List.mem_cons.1 (hin c hc) with e1 | e1
      · rw [e1] at e; unfold ltP at e; omega
      · have e2 := hlt _ e1; unfold ltP at e e2; omega
    cases hh : hdR R p with
    | nil =>
      have hno : ∀ c ∈ R, c.1 ∈ cs := fun c hc => by
        rcases List.mem_cons.1 (hin c hc) with e1 | e1
        · have : c.2 ∈ hdR R p := hdR_mem.2 (by rw [← e1]; exact hc)
          rw [hh] at this; simp at this
        · exact e1
      obtain ⟨Ls, r1, r2, r3⟩ := ih R hpw.tail hnd hck hcl hno
      exact ⟨Ls, by unfold traceP; rw [hh]; exact r1, r2, r3⟩
    | cons h t =>
      have hm : (p, h) ∈ R := hdR_mem.1 (by rw [hh]; simp)
      obtain ⟨L, R', w1, w2, w3, w4, w5⟩ := loop_of hnd hck hcl hle hm
      obtain ⟨hnd', hsub⟩ := perm_closed w3 hnd hck
      have hno : ∀ c ∈ R', c.1 ∈ cs := fun c hc => by
        rcases List.mem_cons.1 (hin c (hsub c hc)) with e1 | e1
        · exact absurd (show (p, c.2) ∈ R' by rw [← e1]; exact hc) (w5 _)
        · exact e1
      obtain ⟨Ls, r1, r2, r3⟩ := ih R' hpw.tail hnd' (fun c hc => hck c (hsub c hc)) w4 hno
      refine ⟨L :: Ls, ?_, fun M hM => ?_, ?_⟩
      · unfold traceP; rw [hh]; simp only [w1]; rw [r1]; rfl
      · rcases List.mem_cons.1 hM with rfl | hM
        · exact w2
        · exact r2 M hM
      · rw [List.flatMap_cons]; exact w3.trans (r3.append_left _)
end Trc
end Go.Proofs.YtneelidbgigehaaGreat
/- The cracks of a region, row by row, in plain words: each crack is listed once; what they add to the winding numbers. -/
namespace Go.Proofs.YtneelidbgigehaaGreat
set_option linter.unusedSimpArgs false
set_option linter.unusedVariables false
namespace Trc
open Runs Reg
/-- the cells of a region -/
def cel (rows : List Reg.Row) (p : Pt) : Bool := memC rows p.1 p.2
def nums (l : List Run) : List Int := l.flatMap fun r => upFrom r.1 (r.2 - r.1).toNat
def ck0 (y : Int) (l : List Run) : List Ck := (nums l).map fun k => ((k, y), 0)
def ck2 (y : Int) (l : List Run) : List Ck := (nums l).map fun k => ((k + 1, y + 1), 2)
def ck13 (y : Int) (l : List Run) : List Ck := l.flatMap fun r => [((r.2, y), 1), ((r.1, y + 1), 3)]
def subR (a b : List Run) : List Run := Runs.choose (fun x y => x && !y) a b
def rowCk (rows : List Reg.Row) (w : Reg.Row) : List Ck := ck0 w.1 (subR w.2 (rwAt rows (w.1 - 1))) ++ ck2 w.1 (subR w.2 (rwAt rows (w.1 + 1))) ++ ck13 w.1 w.2
def ckR (rows : List Reg.Row) : List Ck := rows.flatMap (rowCk rows)
theorem mem_nums {l : List Run} {x : Int} : x ∈ nums l ↔ mem l x = true := by
  unfold nums
  rw [List.mem_flatMap, mem_iff]
  constructor
  · rintro ⟨r, hr, h⟩
    have := mem_upFrom.1 h
    exact ⟨r, hr, this.1, by omega⟩
  · rintro ⟨r, hr, h1, h2⟩
    exact ⟨r, hr, mem_upFrom.2 ⟨h1, by omega⟩⟩
theorem nums_nodup {l : List Run} (h : Sep l) : (nums l).Nodup := by
  unfold nums List.Nodup
  rw [List.pairwise_flatMap]
  refine ⟨fun r _ => (upFrom_asc r.1 _).imp fun h => by omega, h.2.imp_of_mem fun {a b} ha hb hab x hx y hy => ?_⟩
  have h1 := mem_upFrom.1 hx
  have h2 := mem_upFrom.1 hy
  have := h.1 a ha
  omega
theorem subR_spec {a b : List Run} : Sep (subR a b) ∧ ∀ x, mem (subR a b) x = (mem a x && !mem b x) := by
  obtain ⟨h1, h2⟩ := choose_spec (f := fun x y => x && !y) rfl a b
  exact ⟨h1, fun x => by unfold subR; rw [h2]⟩
theorem row_of {rows : List Reg.Row} (hv : VReg rows) {w : Reg.Row} (hw : w ∈ rows) (x : Int) : memC rows x w.1 = mem w.2 x := by
  rw [memC_rwAt hv]
  rcases rwAt_cases rows w.1 with ⟨v, hv1, hv2, e⟩ | ⟨h, _⟩
  · rw [e]
    have : v = w := by
      by_cases hvw : v = w
      · exact hvw
      · have hp := hv.2
        obtain ⟨i, hi⟩ := List.getElem?_of_mem hv1
        obtain ⟨j, hj⟩ := List.getElem?_of_mem hw
        rcases Nat.lt_trichotomy i j with h1 | h1 | h1
        · have := List.pairwise_iff_getElem.1 hp i j (List.getElem?_eq_some_iff.1 hi).1 (List.getElem?_eq_some_iff.1 hj).1 h1
          rw [(List.getElem?_eq_some_iff.1 hi).2, (List.getElem?_eq_some_iff.1 hj).2] at this; omega
        · subst h1; rw [hi] at hj; exact Option.some.inj hj
        · have := List.pairwise_iff_getElem.1 hp j i (List.getElem?_eq_some_iff.1 hj).1 (List.getElem?_eq_some_iff.1 hi).1 h1
          rw [(List.getElem?_eq_some_iff.1 hi).2, (List.getElem?_eq_some_iff.1 hj).2] at this; omega
    rw [this]
  · exact absurd rfl (h w hw)
theorem sep_out {l : List Run} (h : Sep l) {r : Run} (hr : r ∈ l) : mem l r.2 = false ∧ mem l (r.1 - 1) = false := by
  have key : ∀ x, (x = r.2 ∨ x = r.1 - 1) → mem l x = false := fun x hx => by
    rw [Bool.eq_false_iff]
    intro hm
    obtain ⟨q, hq, h1, h2⟩ := mem_iff.1 hm
    have hl := h.1 r hr
    have hl2 := h.1 q hq
    by_cases e : q = r
    · subst e; omega
    · obtain ⟨i, hi⟩ := List.getElem?_of_mem hq
      obtain ⟨j, hj⟩ := List.getElem?_of_mem hr
      rcases Nat.lt_trichotomy i j with h3 | h3 | h3
      · have := List.pairwise_iff_getElem.1 h.2 i j (List.getElem?_eq_some_iff.1 hi).1 (List.getElem?_eq_some_iff.1 hj).1 h3
        rw [(List.getElem?_eq_some_iff.1 hi).2, (List.getElem?_eq_some_iff.1 hj).2] at this; omega
      · subst h3; rw [hi] at hj; exact e (Option.some.inj hj)
      · have := List.pairwise_iff_getElem.1 h.2 j i (List.getElem?_eq_some_iff.1 hj).1 (List.getElem?_eq_some_iff.1 hi).1 h3
        rw [(List.getElem?_eq_some_iff.1 hi).2, (List.getElem?_eq_some_iff.1 hj).2] at this; omega
  exact ⟨key _ (.inl rfl), key _ (.inr rfl)⟩
theorem mem_ckR {rows : List Reg.Row} (hv : VReg rows) {p : Pt} {h : Int} : (p, h) ∈ ckR rows ↔ crk (cel rows) p h = true := by
  have hsep : ∀ w ∈ rows, Sep w.2 := fun w hw => (fine_iff.1 (hv.1 w hw).2).1
  unfold ckR rowCk
  simp only [List.mem_flatMap, List.mem_append]
  constructor
  · rintro ⟨w, hw, (h1 | h1) | h1⟩
    · obtain ⟨k, hk, e⟩ := List.mem_map.1 h1
      rw [mem_nums, subR_spec.2, ← row_of hv hw, ← memC_rwAt hv] at hk
      injection e with e1 e2
      subst e1 e2
      simp at hk
      simp [crk, lcP, rcP, cel, hk]
    · obtain ⟨k, hk, e⟩ := List.mem_map.1 h1
      rw [mem_nums, subR_spec.2, ← row_of hv hw, ← memC_rwAt hv] at hk
      injection e with e1 e2
      subst e1 e2
      simp at hk
      simp [crk, lcP, rcP, cel, hk]
    · unfold ck13 at h1
      obtain ⟨r, hr, h2⟩ := List.mem_flatMap.1 h1
      have he := sep_ends (hsep w hw) hr
      have ho := sep_out (hsep w hw) hr
      rw [← row_of hv hw, ← row_of hv hw] at he ho
      simp at h2
      rcases h2 with ⟨rfl, rfl⟩ | ⟨rfl, rfl⟩
      · simp [crk, lcP, rcP, cel, he, ho]
      · simp [crk, lcP, rcP, cel, he, ho]
  · intro hc
    obtain ⟨x, y⟩ := p
    rcases crk_h hc with rfl | rfl | rfl | rfl <;> simp [crk, lcP, rcP, cel] at hc
    · obtain ⟨w, hw, rfl, hm⟩ := memC_iff.1 hc.1
      refine ⟨w, hw, .inl (.inl (List.mem_map.2 ⟨x, ?_, rfl⟩))⟩
      rw [mem_nums, subR_spec.2, ← memC_rwAt hv, hm, hc.2]; rfl
    · obtain ⟨w, hw, rfl, hm⟩ := memC_iff.1 hc.1
      obtain ⟨r, hr, h1, h2⟩ := mem_iff.1 hm
      have hc2 := hc.2
      rw [row_of hv hw] at hc2
      have e : r.2 = x := by
        by_cases e : x < r.2
        · have : mem w.2 x = true := mem_iff.2 ⟨r, hr, by omega, e⟩
          rw [hc2] at this; cases this
        · omega
      exact ⟨w, hw, .inr (List.mem_flatMap.2 ⟨r, hr, by simp [e]⟩)⟩
    · obtain ⟨w, hw, e, hm⟩ := memC_iff.1 hc.1
      refine ⟨w, hw, .inl (.inr (List.mem_map.2 ⟨x - 1, ?_, by rw [e]; simp⟩))⟩
      rw [mem_nums, subR_spec.2, ← memC_rwAt hv, hm, e, Int.sub_add_cancel, hc.2]; rfl
    · obtain ⟨w, hw, e, hm⟩ := memC_iff.1 hc.1
      obtain ⟨r, hr, h1, h2⟩ := mem_iff.1 hm
      have hc2 := hc.2
      rw [← e, row_of hv hw] at hc2
      have e2 : r.1 = x := by
        by_cases e : r.1 ≤ x - 1
        · have : mem w.2 (x - 1) = true := mem_iff.2 ⟨r, hr, e, by omega⟩
          rw [hc2] at this; cases this
        · omega
      exact ⟨w, hw, .inr (List.mem_flatMap.2 ⟨r, hr, by simp [e, e2]⟩)⟩
theorem ck13_nodup {y : Int} {l : List Run} (h : Sep l) : (ck13 y l).Nodup := by
  unfold ck13 List.Nodup
  rw [List.pairwise_flatMap]
  refine ⟨fun r _ => by simp, h.2.imp_of_mem fun {a b} ha hb hab x hx z hz => ?_⟩
  have h1 := h.1 a ha
  have h2 := h.1 b hb
  simp at hx hz
  rcases hx with rfl | rfl <;> rcases hz with rfl | rfl <;> simp <;> omega
theorem row_y {rows : List Reg.Row} {w : Reg.Row} {c : Ck} (h : c ∈ rowCk rows w) : c.1.2 = (if c.2 = 0 ∨ c.2 = 1 then w.1 else w.1 + 1) := by
  unfold rowCk at h
  simp only [List.mem_append] at h
  rcases h with (h | h) | h
  · obtain ⟨k, _, rfl⟩ := List.mem_map.1 h; simp
  · obtain ⟨k, _, rfl⟩ := List.mem_map.1 h; simp
  · obtain ⟨r, _, h⟩ := List.mem_flatMap.1 h
    simp at h
    rcases h with rfl | rfl <;> simp
theorem ckR_nodup {rows : List Reg.Row} (hv : VReg rows) : (ckR rows).Nodup := by
  have hsep : ∀ w ∈ rows, Sep w.2 := fun w hw => (fine_iff.1 (hv.1 w hw).2).1
  unfold ckR List.Nodup
  rw [List.pairwise_flatMap]
  refine ⟨fun w hw => ?_, hv.2.imp fun {a b} hab x hx z hz e => ?_⟩
  · unfold rowCk
    have n0 : (ck0 w.1 (subR w.2 (rwAt rows (w.1 - 1)))).Nodup := by
      unfold ck0 List.Nodup
      rw [List.pairwise_map]
      exact (nums_nodup subR_spec.1).imp fun h e => h (by simpa using e)
    have n2 : (ck2 w.1 (subR w.2 (rwAt rows (w.1 + 1)))).Nodup := by
      unfold ck2 List.Nodup
      rw [List.pairwise_map]
      exact (nums_nodup subR_spec.1).imp fun h e => h (by simp at e; omega)
    refine List.nodup_append.2 ⟨List.nodup_append.2 ⟨n0, n2, ?_⟩, ck13_nodup (hsep w hw), ?_⟩
    · intro a ha b hb e
      obtain ⟨k, _, rfl⟩ := List.mem_map.1 ha
      obtain ⟨j, _, rfl⟩ := List.mem_map.1 hb
      simp at e
    · intro a ha b hb e
      unfold ck13 at hb
      obtain ⟨r, _, hb⟩ := List.mem_flatMap.1 hb
      simp at hb
      rcases List.mem_append.1 ha with ha | ha
      · obtain ⟨k, _, rfl⟩ := List.mem_map.1 ha
        rcases hb with rfl | rfl <;> simp at e
      · obtain ⟨k, _, rfl⟩ := List.mem_map.1 ha
        rcases hb with rfl | rfl <;> simp at e
  · subst e
    have h1 := row_y hx
    have h2 := row_y hz
    split at h1 <;> omega
theorem ckR_closed {rows : List Reg.Row} (hv : VReg rows) : ∀ c ∈ ckR rows, nx (cel rows) c ∈ ckR rows := fun c hc =>
  (mem_ckR hv).2 (nx_ok ((mem_ckR hv).1 hc))
theorem ckR_crk {rows : List Reg.Row} (hv : VReg rows) : ∀ c ∈ ckR rows, crk (cel rows) c.1 c.2 = true := fun c hc => (mem_ckR hv).1 hc
end Trc
end Go.Proofs.YtneelidbgigehaaGreat

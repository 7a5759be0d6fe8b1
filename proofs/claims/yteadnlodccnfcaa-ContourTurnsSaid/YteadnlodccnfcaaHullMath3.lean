/- The hull as the laws ask for it: edges, turns, ends, order and repetitions. -/
import Derived.Test.YteadnlodccnfcaaHullMath2
namespace Go.Proofs.Yteadnlodccnfcaa.Planar
set_option linter.unusedSimpArgs false
set_option linter.unusedVariables false
theorem hull_small {T : List Pt} (h : T.length < 2) : hullR T = T := by unfold hullR; rw [if_pos h]
theorem two_ends {T : List Pt} (hT : Asc2 T) (h : 2 ≤ T.length) : ∃ m M p r, T.head? = some m ∧ T.getLast? = some M ∧ Two T m M (chR T) (chR T.reverse) ∧ (chR T).length = p + 1 ∧ (chR T.reverse).length = r + 1 ∧ 0 < p ∧ 0 < r ∧ lx m M ∧ (hullR T).length = p + r ∧
    ∀ i, i < p + r → (hullR T)[i]? = wayAt (chR T) (chR T.reverse) i := by
  obtain ⟨m, hm⟩ : ∃ m, T.head? = some m := by
    rcases T with _ | ⟨a, T⟩
    · simp at h
    · exact ⟨a, rfl⟩
  obtain ⟨M, hM⟩ : ∃ M, T.getLast? = some M := by
    rcases hx : T.getLast? with _ | M
    · rw [List.getLast?_eq_none_iff] at hx; subst hx; simp at h
    · exact ⟨M, rfl⟩
  have ht := two_of hT hm hM
  have hmM : lx m M := by
    obtain ⟨n, e, hn⟩ := last_idx hM
    have h0 : T[0]? = some m := by rw [← List.head?_eq_getElem?]; exact hm
    obtain ⟨h1, rfl⟩ := List.getElem?_eq_some_iff.1 h0
    obtain ⟨h2, rfl⟩ := List.getElem?_eq_some_iff.1 hn
    exact List.pairwise_iff_getElem.1 hT 0 n h1 h2 (by omega)
  obtain ⟨p, hp, hpm⟩ := last_idx ht.lo.bot
  obtain ⟨r, hr, hrM⟩ := last_idx (two_up_bot ht)
  have hp0 : 0 < p := by
    rcases Nat.eq_zero_or_pos p with h0 | h0
    · subst h0
      rw [two_lo_top ht] at hpm
      injection hpm with e
      subst e
      exact absurd hmM (lx_irr _)
    · exact h0
  have hr0 : 0 < r := by
    rcases Nat.eq_zero_or_pos r with h0 | h0
    · subst h0
      rw [two_up_top ht] at hrM
      injection hrM with e
      subst e
      exact absurd hmM (lx_irr _)
    · exact h0
  refine ⟨m, M, p, r, hm, hM, ht, hp, hr, hp0, hr0, hmM, ?_, fun i hi => ?_⟩
  · unfold hullR
    rw [if_neg (by omega), List.length_append, List.length_reverse, List.length_reverse, List.length_tail, List.length_tail, hp, hr]; omega
  · unfold hullR
    rw [if_neg (by omega)]
    exact hull_get hp hr hi
theorem hull_first {T : List Pt} (hT : Asc2 T) (h : 0 < T.length) : (hullR T)[0]? = T.head? := by
  by_cases h2 : T.length < 2
  · rw [hull_small h2, List.head?_eq_getElem?]
  · obtain ⟨m, M, p, r, hm, hM, ht, hp, hr, hp0, hr0, hmM, hn, hg⟩ := two_ends hT (by omega)
    rw [hg 0 (by omega), way_start ht hp hp0, hm]
theorem hull_next {T : List Pt} (hT : Asc2 T) (h : 2 ≤ T.length) : ∃ m M p r, T.head? = some m ∧ T.getLast? = some M ∧ Two T m M (chR T) (chR T.reverse) ∧ (chR T).length = p + 1 ∧ (chR T.reverse).length = r + 1 ∧ 0 < p ∧ 0 < r ∧ lx m M ∧ (hullR T).length = p + r ∧
    (∀ i, i < p + r → (hullR T)[i]? = wayAt (chR T) (chR T.reverse) i) ∧ (∀ i, i < p + r → (hullR T)[(i + 1) % (p + r)]? = wayAt (chR T) (chR T.reverse) (i + 1)) := by
  obtain ⟨m, M, p, r, hm, hM, ht, hp, hr, hp0, hr0, hmM, hn, hg⟩ := two_ends hT h
  refine ⟨m, M, p, r, hm, hM, ht, hp, hr, hp0, hr0, hmM, hn, hg, fun i hi => ?_⟩
  rcases Nat.lt_or_ge (i + 1) (p + r) with h1 | h1
  · rw [Nat.mod_eq_of_lt h1, hg _ h1]
  · have e : i + 1 = p + r := by omega
    rw [e, Nat.mod_self, hg 0 (by omega), way_start ht hp hp0, way_end ht hp hr]
theorem hull_edge {T : List Pt} (hT : Asc2 T) (h : 2 ≤ T.length) {i n : Nat} {a b : Pt} (hn : (hullR T).length = n) (ha : (hullR T)[i]? = some a) (hb : (hullR T)[(i + 1) % n]? = some b) :
    (∀ q ∈ T, 0 ≤ crs a b q) ∧ a ∈ T ∧ b ∈ T ∧ a ≠ b := by
  obtain ⟨m, M, p, r, hm, hM, ht, hp, hr, hp0, hr0, hmM, hn2, hg, hg2⟩ := hull_next hT h
  have e : n = p + r := by omega
  subst e
  have hi : i < p + r := by have := (List.getElem?_eq_some_iff.1 ha).1; omega
  rw [hg i hi] at ha
  rw [hg2 i hi] at hb
  exact way_edge ht hp hr hi ha hb
theorem hull_turn {T : List Pt} (hT : Asc2 T) (h : 2 ≤ T.length) {i n : Nat} {a b c : Pt} (hn : (hullR T).length = n) (hn2 : 2 < n) (ha : (hullR T)[i]? = some a) (hb : (hullR T)[(i + 1) % n]? = some b) (hc : (hullR T)[(i + 2) % n]? = some c) : 0 < crs a b c := by
  obtain ⟨m, M, p, r, hm, hM, ht, hp, hr, hp0, hr0, hmM, hn3, hg, hg2⟩ := hull_next hT h
  have e : n = p + r := by omega
  subst e
  have hi : i < p + r := by have := (List.getElem?_eq_some_iff.1 ha).1; omega
  rw [hg i hi] at ha
  rw [hg2 i hi] at hb
  rcases Nat.lt_or_ge (i + 1) (p + r) with h1 | h1
  · have e2 : (i + 2) % (p + r) = (i + 1 + 1) % (p + r) := rfl
    rw [e2, hg2 (i + 1) h1] at hc
    rcases way_turn ht hp hr hp0 hr0 (by omega) ha hb hc with h2 | h2
    · exact h2
    · omega
  · have ei : i = p + r - 1 := by omega
    have e2 : (i + 2) % (p + r) = 1 := by
      rw [show i + 2 = 1 + (p + r) by omega, Nat.add_mod_right, Nat.mod_eq_of_lt (by omega)]
    rw [e2, hg 1 (by omega)] at hc
    rw [show i + 1 = p + r by omega, way_end ht hp hr] at hb
    cases hb
    rw [ei] at ha
    rcases way_turn0 ht hp hr hp0 hr0 ha hc with h2 | h2
    · exact h2
    · omega
theorem hull_mem {T : List Pt} (hT : Asc2 T) {x : Pt} (hx : x ∈ hullR T) : x ∈ T := by
  by_cases h2 : T.length < 2
  · rwa [hull_small h2] at hx
  · obtain ⟨i, hi, rfl⟩ := List.getElem_of_mem hx
    have hb : ∃ b, (hullR T)[(i + 1) % (hullR T).length]? = some b := ⟨_, List.getElem?_eq_getElem (Nat.mod_lt _ (by omega))⟩
    obtain ⟨b, hb⟩ := hb
    exact (hull_edge hT (by omega) rfl (List.getElem?_eq_getElem hi) hb).2.1
theorem hull_len {T : List Pt} (hT : Asc2 T) : ((hullR T).length = 0 ↔ T.length = 0) ∧ (T.length = 1 → hullR T = T) ∧ (2 ≤ T.length → 2 ≤ (hullR T).length) := by
  refine ⟨?_, fun h => hull_small (by omega), fun h => ?_⟩
  · by_cases h2 : T.length < 2
    · rw [hull_small h2]
    · obtain ⟨m, M, p, r, hm, hM, ht, hp, hr, hp0, hr0, hmM, hn2, hg⟩ := two_ends hT (by omega)
      omega
  · obtain ⟨m, M, p, r, hm, hM, ht, hp, hr, hp0, hr0, hmM, hn2, hg⟩ := two_ends hT h
    omega
/-- on a line: the ends, and all points between them -/
theorem hull_two {T : List Pt} (hT : Asc2 T) (h : 2 ≤ T.length) (hn : (hullR T).length = 2) {i : Nat} {a b q : Pt} (ha : (hullR T)[i]? = some a) (hb : (hullR T)[(i + 1) % 2]? = some b) (hq : q ∈ T) : crs a b q = 0 ∧ btw q.1 a.1 b.1 = true ∧ btw q.2 a.2 b.2 = true := by
  obtain ⟨m, M, p, r, hm, hM, ht, hp, hr, hp0, hr0, hmM, hn3, hg, hg2⟩ := hull_next hT h
  have hi : i < 2 := by have := (List.getElem?_eq_some_iff.1 ha).1; omega
  have ep : p = 1 := by omega
  have er : r = 1 := by omega
  subst ep
  subst er
  have w0 := way_start ht hp hp0
  have w1 := way_mid ht hp hr
  have w2 := way_end ht hp hr
  have f1 := (way_edge ht hp hr (i := 0) (by omega) w0 w1).1 q hq
  have f2 := (way_edge ht hp hr (i := 1) (by omega) w1 w2).1 q hq
  have e1 : crs M m q = -crs m M q := by unfold crs; grind
  have h0 : crs m M q = 0 := by omega
  have hle1 : q = m ∨ lx m q := by
    rcases lx_tri q m with hl | hl | hl
    · exact absurd hl (ht.mn q hq)
    · exact .inl hl
    · exact .inr hl
  have hle2 : q = M ∨ lx q M := by
    rcases lx_tri q M with hl | hl | hl
    · exact .inr hl
    · exact .inl hl
    · exact absurd hl (ht.mx q hq)
  have hx : m.1 ≤ q.1 ∧ q.1 ≤ M.1 := by
    constructor
    · rcases hle1 with rfl | hl
      · exact Int.le_refl _
      · unfold lx at hl; omega
    · rcases hle2 with rfl | hl
      · exact Int.le_refl _
      · unfold lx at hl; omega
  have b1 : btw q.1 m.1 M.1 = true := by unfold btw; simp; omega
  have b2 : btw q.2 m.2 M.2 = true := by
    by_cases hx2 : m.1 = M.1
    · have h3 : m.2 ≤ q.2 := by
        rcases hle1 with rfl | hl
        · exact Int.le_refl _
        · unfold lx at hl; omega
      have h4 : q.2 ≤ M.2 := by
        rcases hle2 with rfl | hl
        · exact Int.le_refl _
        · unfold lx at hl; omega
      unfold btw; simp; omega
    · exact line_x hx2 h0 b1
  have hi2 : i = 0 ∨ i = 1 := by omega
  rcases hi2 with rfl | rfl
  · rw [hg 0 (by omega), w0] at ha
    rw [show (0 + 1) % 2 = 1 from rfl, hg 1 (by omega), w1] at hb
    cases ha; cases hb
    exact ⟨h0, b1, b2⟩
  · rw [hg 1 (by omega), w1] at ha
    rw [show (1 + 1) % 2 = 0 from rfl, hg 0 (by omega), w0] at hb
    cases ha; cases hb
    refine ⟨by omega, ?_, ?_⟩
    · unfold btw at *; simp at *; omega
    · unfold btw at *; simp at *; omega
/-- the points of a list, ascending, each once -/
def insP (x : Pt) : List Pt → List Pt
  | [] => [x]
  | y :: l => if x.1 < y.1 ∨ x.1 = y.1 ∧ x.2 < y.2 then x :: y :: l else if x = y then y :: l else y :: insP x l
def srt (l : List Pt) : List Pt := l.foldr insP []
theorem insP_mem (x : Pt) : ∀ (l : List Pt) (z : Pt), z ∈ insP x l ↔ z = x ∨ z ∈ l
  | [], z => by simp [insP]
  | y :: l, z => by
    unfold insP
    split
    · simp
    · split
      · rename_i h; subst h; simp
      · simp only [List.mem_cons, insP_mem x l z]
        constructor
        · rintro (h | h | h)
          · exact .inr (.inl h)
          · exact .inl h
          · exact .inr (.inr h)
        · rintro (h | h | h)
          · exact .inr (.inl h)
          · exact .inl h
          · exact .inr (.inr h)
theorem insP_asc (x : Pt) : ∀ {l : List Pt}, Asc2 l → Asc2 (insP x l)
  | [], _ => by simp [insP, Asc2]
  | y :: l, h => by
    have h' := List.pairwise_cons.1 h
    unfold insP
    split
    · rename_i hx
      refine List.pairwise_cons.2 ⟨fun z hz => ?_, h⟩
      rcases List.mem_cons.1 hz with rfl | hz
      · exact hx
      · exact lx_trans hx (h'.1 z hz)
    · rename_i hx
      split
      · exact h
      · rename_i hne
        refine List.pairwise_cons.2 ⟨fun z hz => ?_, insP_asc x h'.2⟩
        rcases (insP_mem x l z).1 hz with rfl | hz
        · rcases lx_tri y z with hl | hl | hl
          · exact hl
          · exact absurd hl.symm hne
          · exact absurd hl hx
        · exact h'.1 z hz
theorem srt_spec (l : List Pt) : Asc2 (srt l) ∧ ∀ z, z ∈ srt l ↔ z ∈ l := by
  induction l with
  | nil => exact ⟨List.Pairwise.nil, fun z => Iff.rfl⟩
  | cons x l ih => exact ⟨insP_asc x ih.1, fun z => by show z ∈ insP x (srt l) ↔ _; rw [insP_mem, ih.2, List.mem_cons]⟩
theorem srt_is {l T : List Pt} (hT : Asc2 T) (h : ∀ z, z ∈ T ↔ z ∈ l) : T = srt l := asc2_ext hT (srt_spec l).1 fun z => by rw [h, (srt_spec l).2]
theorem srt_same {l k : List Pt} (h : ∀ z, z ∈ l ↔ z ∈ k) : srt l = srt k := srt_is (srt_spec l).1 fun z => by rw [(srt_spec l).2, h]
/-- the vertices of the hull of a list -/
def hullL (l : List Pt) : List Pt := hullR (srt l)
theorem hullL_same {l k : List Pt} (h : ∀ z, z ∈ l ↔ z ∈ k) : hullL l = hullL k := by unfold hullL; rw [srt_same h]
theorem chain_in {T : List Pt} (hT : Asc2 T) (h : 2 ≤ T.length) : (∀ x ∈ chR T, x ∈ hullR T) ∧ ∀ x ∈ chR T.reverse, x ∈ hullR T := by
  obtain ⟨m, M, p, r, hm, hM, ht, hp, hr, hp0, hr0, hmM, hn, hg, hg2⟩ := hull_next hT h
  have key : ∀ i, i ≤ p + r → ∀ x, wayAt (chR T) (chR T.reverse) i = some x → x ∈ hullR T := fun i hi x hx => by
    rcases Nat.lt_or_ge i (p + r) with h1 | h1
    · rw [← hg i h1] at hx; exact List.mem_of_getElem? hx
    · have e : i = p + r := by omega
      rw [e, way_end ht hp hr, ← way_start ht hp hp0, ← hg 0 (by omega)] at hx
      exact List.mem_of_getElem? hx
  constructor
  · intro x hx
    obtain ⟨j, hj, rfl⟩ := List.getElem_of_mem hx
    refine key (p - j) (by omega) _ ?_
    rw [way_lo ht hp hr (by omega), show p - (p - j) = j by omega]
    exact List.getElem?_eq_getElem hj
  · intro x hx
    obtain ⟨j, hj, rfl⟩ := List.getElem_of_mem hx
    refine key (p + r - j) (by omega) _ ?_
    rw [way_up hp hr (by omega), show p + r - (p + r - j) = j by omega]
    exact List.getElem?_eq_getElem hj
/-- the hull of the hull is the hull -/
theorem hull_again {T : List Pt} (hT : Asc2 T) : hullL (hullR T) = hullR T := by
  unfold hullL
  by_cases h2 : T.length < 2
  · rw [hull_small h2, ← srt_is hT (fun z => Iff.rfl), hull_small h2]
  · obtain ⟨m, M, p, r, hm, hM, ht, hp, hr, hp0, hr0, hmM, hn⟩ := two_ends hT (by omega)
    obtain ⟨c1, c2⟩ := chain_in hT (by omega)
    obtain ⟨sA, sM⟩ := srt_spec (hullR T)
    generalize hS : srt (hullR T) = S at *
    have hST : ∀ x ∈ S, x ∈ T := fun x hx => hull_mem hT ((sM x).1 hx)
    have hmS : m ∈ S := (sM m).2 (c1 m (List.mem_of_getElem? (last_idx ht.lo.bot).choose_spec.2))
    have hMS : M ∈ S := (sM M).2 (c1 M (List.mem_of_getElem? (two_lo_top ht)))
    have hlen : 2 ≤ S.length := by
      rcases S with _ | ⟨a, _ | ⟨b, S⟩⟩
      · simp at hmS
      · rw [List.mem_singleton] at hmS hMS
        rw [hmS, hMS] at hmM; exact absurd hmM (lx_irr _)
      · simp
    obtain ⟨m', M', p', r', hm', hM', ht', -⟩ := two_ends sA hlen
    have em : m' = m := by
      have h1 : m' ∈ S := List.mem_of_mem_head? hm'
      rcases lx_tri m' m with hl | hl | hl
      · exact absurd hl (ht.mn m' (hST m' h1))
      · exact hl
      · exact absurd hl (ht'.mn m hmS)
    have eM : M' = M := by
      have h1 : M' ∈ S := List.mem_of_getLast? hM'
      rcases lx_tri M' M with hl | hl | hl
      · exact absurd hl (ht'.mx M hMS)
      · exact hl
      · exact absurd hl (ht.mx M' (hST M' h1))
    subst em
    subst eM
    have e1 : chR S = chR T := ch_unique _ _ _ ht'.lo (ch_perm ht.lo (fun x hx => (sM x).2 (c1 x hx)) hST)
    have e2 : (chR S.reverse).map neg = (chR T.reverse).map neg := ch_unique _ _ _ ht'.up (ch_perm ht.up (fun x hx => by
      obtain ⟨y, hy, rfl⟩ := List.mem_map.1 hx
      exact List.mem_map.2 ⟨y, (sM y).2 (c2 y hy), rfl⟩) (fun x hx => by
      obtain ⟨y, hy, rfl⟩ := List.mem_map.1 hx
      exact List.mem_map.2 ⟨y, hST y hy, rfl⟩))
    have e3 : chR S.reverse = chR T.reverse := by
      have := congrArg (List.map neg) e2
      rwa [map_negs, map_negs] at this
    unfold hullR
    rw [if_neg (by omega), if_neg (by omega), e1, e3]
end Go.Proofs.Yteadnlodccnfcaa.Planar

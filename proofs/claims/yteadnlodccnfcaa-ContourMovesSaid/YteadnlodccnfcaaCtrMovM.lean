/- Nest under moves and reversal: plain laws. -/
import Derived.Test.YteadnlodccnfcaaCtrNestM
import Derived.Test.YteadnlodccnfcaaCtrChM
namespace Go.Proofs.Yteadnlodccnfcaa
set_option linter.unusedSimpArgs false
set_option linter.unusedVariables false
open Planar
def movP (dx dy : Int) (p : Pt) : Pt := (p.1 + dx, p.2 + dy)
theorem fold_min (t : List Pt) : ∀ m : Pt, (t.foldl (fun m y => if ltX y m then y else m) m = m ∨ t.foldl (fun m y => if ltX y m then y else m) m ∈ t) ∧ ¬ ltX m (t.foldl (fun m y => if ltX y m then y else m) m) ∧ ∀ y ∈ t, ¬ ltX y (t.foldl (fun m y => if ltX y m then y else m) m) := by
  induction t with
  | nil => intro m; exact ⟨.inl rfl, ltX_irr m, fun y h => by simp at h⟩
  | cons y t ih =>
    intro m
    rw [List.foldl_cons]
    by_cases h : ltX y m
    · rw [if_pos h]
      obtain ⟨h1, h2, h3⟩ := ih y
      refine ⟨?_, fun hh => h2 (ltX_tr h hh), fun z hz => ?_⟩
      · rcases h1 with h1 | h1
        · rw [h1]; exact .inr (List.mem_cons_self ..)
        · exact .inr (List.mem_cons_of_mem _ h1)
      · rcases List.mem_cons.1 hz with rfl | hz
        · exact h2
        · exact h3 z hz
    · rw [if_neg h]
      obtain ⟨h1, h2, h3⟩ := ih m
      refine ⟨?_, h2, fun z hz => ?_⟩
      · rcases h1 with h1 | h1
        · exact .inl h1
        · exact .inr (List.mem_cons_of_mem _ h1)
      · rcases List.mem_cons.1 hz with rfl | hz
        · exact ltX_ntr h2 h
        · exact h3 z hz
theorem minP_spec {o : List Pt} (h : o ≠ []) : minP o ∈ o ∧ ∀ y ∈ o, ¬ ltX y (minP o) := by
  cases o with
  | nil => exact absurd rfl h
  | cons x t =>
    obtain ⟨h1, h2, h3⟩ := fold_min t x
    have e : minP (x :: t) = t.foldl (fun m y => if ltX y m then y else m) x := rfl
    rw [e]
    refine ⟨?_, fun z hz => ?_⟩
    · rcases h1 with h1 | h1
      · rw [h1]; exact List.mem_cons_self ..
      · exact List.mem_cons_of_mem _ h1
    · rcases List.mem_cons.1 hz with rfl | hz
      · exact h2
      · exact h3 z hz
theorem minP_eq {o : List Pt} {m : Pt} (hm : m ∈ o) (h : ∀ y ∈ o, ¬ ltX y m) : minP o = m := by
  have h0 : o ≠ [] := fun e => by rw [e] at hm; simp at hm
  obtain ⟨h1, h2⟩ := minP_spec h0
  exact ltX_tri (h _ h1) (h2 _ hm)
theorem minP_rev {o : List Pt} (h : o ≠ []) : minP o.reverse = minP o := by
  obtain ⟨h1, h2⟩ := minP_spec h
  exact minP_eq (List.mem_reverse.2 h1) (fun y hy => h2 y (List.mem_reverse.1 hy))
theorem minP_mov {o : List Pt} (dx dy : Int) (h : o ≠ []) : minP (o.map (movP dx dy)) = movP dx dy (minP o) := by
  obtain ⟨h1, h2⟩ := minP_spec h
  refine minP_eq (List.mem_map_of_mem h1) (fun y hy => ?_)
  obtain ⟨z, hz, rfl⟩ := List.mem_map.1 hy
  have := h2 z hz
  unfold ltX movP at *
  simp only at *
  omega
theorem segAt_mem {o : List Pt} {i : Nat} (h : i < o.length) : (segAt o i).1 ∈ o ∧ (segAt o i).2 ∈ o := by
  unfold segAt
  rw [List.getD_eq_getElem?_getD, List.getD_eq_getElem?_getD, List.getElem?_eq_getElem h, List.getElem?_eq_getElem (Nat.mod_lt _ (by omega))]
  exact ⟨List.getElem_mem _, List.getElem_mem _⟩
theorem segsO_mem {o : List Pt} {s : Sg} (h : s ∈ segsO o) : s.1 ∈ o ∧ s.2 ∈ o := by
  unfold segsO segsTo at h
  obtain ⟨i, hi, rfl⟩ := List.mem_map.1 h
  exact segAt_mem (List.mem_range.1 hi)
theorem segsO_map (f : Pt → Pt) (o : List Pt) : segsO (o.map f) = (segsO o).map fun s => (f s.1, f s.2) := by
  unfold segsO segsTo
  rw [List.length_map, List.map_map]
  refine List.map_congr_left fun i hi => ?_
  have hi := List.mem_range.1 hi
  unfold segAt
  simp only [Function.comp, List.getD_eq_getElem?_getD, List.getElem?_map, List.length_map]
  rw [List.getElem?_eq_getElem hi, List.getElem?_eq_getElem (Nat.mod_lt _ (by omega))]
  rfl
theorem crs_mov (dx dy : Int) (a b c : Pt) : crs (movP dx dy a) (movP dx dy b) (movP dx dy c) = crs a b c := by
  unfold crs movP
  simp only
  rw [show b.1 + dx - (a.1 + dx) = b.1 - a.1 by omega, show b.2 + dy - (a.2 + dy) = b.2 - a.2 by omega, show c.1 + dx - (a.1 + dx) = c.1 - a.1 by omega, show c.2 + dy - (a.2 + dy) = c.2 - a.2 by omega]
theorem turn_mov {dx dy : Int} {a b c : Pt} (ha : vld a = true) (hb : vld b = true) (hc : vld c = true) (ha' : vld (movP dx dy a) = true) (hb' : vld (movP dx dy b) = true) (hc' : vld (movP dx dy c) = true) :
    turn (movP dx dy a) (movP dx dy b) (movP dx dy c) = turn a b c := by
  unfold turn cross
  simp only [ha, hb, hc, ha', hb', hc', Bool.and_self, if_true, crs_mov]
theorem btw_mov (n a b d : Int) : btw (n + d) (a + d) (b + d) = btw n a b := by
  unfold btw
  congr 1 <;> congr 1 <;> exact decide_eq_decide.2 (by omega)
theorem on_mov {dx dy : Int} {p a b : Pt} (ha : vld a = true) (hb : vld b = true) (hp : vld p = true) (ha' : vld (movP dx dy a) = true) (hb' : vld (movP dx dy b) = true) (hp' : vld (movP dx dy p) = true) :
    on (movP dx dy p) (movP dx dy a) (movP dx dy b) = on p a b := by
  unfold on
  rw [ha, hb, hp, ha', hb', hp', crs_mov]
  show (true && true && true && decide (crs a b p = 0) && btw (p.1 + dx) (a.1 + dx) (b.1 + dx) && btw (p.2 + dy) (a.2 + dy) (b.2 + dy)) = _
  rw [btw_mov, btw_mov]
theorem crsS_mov {dx dy : Int} {s : Sg} {p : Pt} (ha : vld s.1 = true) (hb : vld s.2 = true) (hp : vld p = true) (ha' : vld (movP dx dy s.1) = true) (hb' : vld (movP dx dy s.2) = true) (hp' : vld (movP dx dy p) = true) :
    crsS (movP dx dy s.1, movP dx dy s.2) (movP dx dy p) = crsS s p := by
  unfold crsS
  simp only
  rw [turn_mov hb ha hp hb' ha' hp', turn_mov ha hb hp ha' hb' hp']
  have e1 : (movP dx dy s.2).2 = s.2.2 + dy := rfl
  have e2 : (movP dx dy s.1).2 = s.1.2 + dy := rfl
  have e3 : (movP dx dy p).2 = p.2 + dy := rfl
  rw [e1, e2, e3]
  by_cases h : s.2.2 < s.1.2
  · rw [if_pos h, if_pos (show s.2.2 + dy < s.1.2 + dy by omega), decide_eq_decide.2 (show s.2.2 + dy ≤ p.2 + dy ↔ s.2.2 ≤ p.2 by omega), decide_eq_decide.2 (show p.2 + dy < s.1.2 + dy ↔ p.2 < s.1.2 by omega)]
  · rw [if_neg h, if_neg (show ¬ s.2.2 + dy < s.1.2 + dy by omega), decide_eq_decide.2 (show s.1.2 + dy ≤ p.2 + dy ↔ s.1.2 ≤ p.2 by omega), decide_eq_decide.2 (show p.2 + dy < s.2.2 + dy ↔ p.2 < s.2.2 by omega)]
theorem any_eq {α : Type} {l : List α} {f g : α → Bool} (h : ∀ x ∈ l, f x = g x) : l.any f = l.any g := by
  induction l with
  | nil => rfl
  | cons x l ih => rw [List.any_cons, List.any_cons, h x (by simp), ih (fun y hy => h y (by simp [hy]))]
theorem conP_map {l : List Sg} {F : Sg → Sg} {p q : Pt} (h1 : ∀ s ∈ l, onS (F s) q = onS s p) (h2 : ∀ s ∈ l, crsS (F s) q = crsS s p) : conP (l.map F) q = conP l p := by
  unfold conP odd
  rw [List.any_map, List.countP_map, any_eq (f := (fun s => onS s q) ∘ F) (g := fun s => onS s p) (fun s hs => h1 s hs), List.countP_congr (q := fun s => crsS s p) (fun s hs => by rw [← h2 s hs]; exact Iff.rfl)]
theorem conP_mov {dx dy : Int} {o : List Pt} {p : Pt} (hv : ∀ a ∈ o, vld a = true) (hv' : ∀ a ∈ o, vld (movP dx dy a) = true) (hp : vld p = true) (hp' : vld (movP dx dy p) = true) :
    conP (segsO (o.map (movP dx dy))) (movP dx dy p) = conP (segsO o) p := by
  rw [segsO_map]
  refine conP_map (fun s hs => ?_) (fun s hs => ?_)
  · obtain ⟨h1, h2⟩ := segsO_mem hs
    exact on_mov (hv _ h1) (hv _ h2) hp (hv' _ h1) (hv' _ h2) hp'
  · obtain ⟨h1, h2⟩ := segsO_mem hs
    exact crsS_mov (hv _ h1) (hv _ h2) hp (hv' _ h1) (hv' _ h2) hp'
theorem crs_swap (a b c : Pt) : crs b a c = - crs a b c := by
  unfold crs
  simp only [Int.sub_mul, Int.mul_sub]
  rw [Int.mul_comm a.1 b.2, Int.mul_comm a.2 b.1, Int.mul_comm a.2 a.1, Int.mul_comm b.2 b.1]
  omega
theorem onS_swap (s : Sg) (p : Pt) : onS (s.2, s.1) p = onS s p := by
  have hb : ∀ n a b : Int, btw n a b = btw n b a := fun n a b => by unfold btw; rw [Bool.or_comm]
  unfold onS on
  simp only
  rw [hb p.1 s.2.1, hb p.2 s.2.2, decide_eq_decide.2 (show crs s.2 s.1 p = 0 ↔ crs s.1 s.2 p = 0 by rw [crs_swap s.1 s.2]; omega)]
  cases vld p <;> cases vld s.1 <;> cases vld s.2 <;> rfl
theorem crsS_swap (s : Sg) (p : Pt) : crsS (s.2, s.1) p = crsS s p := by
  unfold crsS
  simp only
  by_cases h : s.2.2 < s.1.2
  · rw [if_pos h, if_neg (show ¬ s.1.2 < s.2.2 by omega)]
  · rw [if_neg h]
    by_cases h2 : s.1.2 < s.2.2
    · rw [if_pos h2]
    · rw [if_neg h2]
      have e : s.1.2 = s.2.2 := by omega
      have e1 : (decide (s.2.2 ≤ p.2) && decide (p.2 < s.1.2)) = false := by
        rw [Bool.and_eq_false_iff, decide_eq_false_iff_not, decide_eq_false_iff_not]; omega
      have e2 : (decide (s.1.2 ≤ p.2) && decide (p.2 < s.2.2)) = false := by
        rw [Bool.and_eq_false_iff, decide_eq_false_iff_not, decide_eq_false_iff_not]; omega
      rw [e1, e2]; rfl
theorem segsO_rev (o : List Pt) : (segsO o.reverse).Perm ((segsO o).map fun s => (s.2, s.1)) := by
  rcases o.length.eq_zero_or_pos with h0 | h0
  · rw [List.eq_nil_of_length_eq_zero h0]; exact List.Perm.refl _
  · obtain ⟨n, hn⟩ : ∃ n, o.length = n + 1 := ⟨o.length - 1, by omega⟩
    have hr : o.reverse.length = n + 1 := by rw [List.length_reverse, hn]
    have hg : ∀ i, i < n + 1 → o.reverse.getD i (0, 0) = o.getD (n - i) (0, 0) := fun i hi => by
      rw [List.getD_eq_getElem?_getD, List.getD_eq_getElem?_getD, List.getElem?_reverse (by omega), hn, show n + 1 - 1 - i = n - i by omega]
    have e1 : segAt o.reverse n = ((segAt o n).2, (segAt o n).1) := by
      unfold segAt
      rw [hr, hn, Nat.mod_self, hg n (by omega), hg 0 (by omega), Nat.sub_self, Nat.sub_zero]
    have e2 : segsTo o.reverse n = ((segsTo o n).map fun s => (s.2, s.1)).reverse := by
      unfold segsTo
      rw [List.map_map]
      refine List.ext_getElem? fun i => ?_
      by_cases hi : i < n
      · rw [List.getElem?_map, List.getElem?_range hi, List.getElem?_reverse (by simpa using hi), List.getElem?_map]
        simp only [List.length_map, List.length_range]
        rw [List.getElem?_range (by omega)]
        simp only [Option.map_some, Function.comp]
        unfold segAt
        rw [hr, hn, Nat.mod_eq_of_lt (show i + 1 < n + 1 by omega), Nat.mod_eq_of_lt (show n - 1 - i + 1 < n + 1 by omega), hg i (by omega), hg (i + 1) (by omega), show n - 1 - i + 1 = n - i by omega, show n - (i + 1) = n - 1 - i by omega]
      · rw [List.getElem?_eq_none (by simp; omega), List.getElem?_eq_none (by simp; omega)]
    unfold segsO
    rw [hr, hn, segsTo_succ, segsTo_succ, e1, e2, List.map_append]
    exact List.Perm.append (List.reverse_perm _) (List.Perm.refl _)
theorem conP_perm {l m : List Sg} (h : l.Perm m) (p : Pt) : conP l p = conP m p := by
  unfold conP odd
  rw [h.countP_eq, h.any_eq]
theorem conP_rev (o : List Pt) (p : Pt) : conP (segsO o.reverse) p = conP (segsO o) p := by
  rw [conP_perm (segsO_rev o)]
  exact conP_map (fun s _ => onS_swap s p) (fun s _ => crsS_swap s p)
theorem nest_map {l : List (List Pt)} {g : List Pt → List Pt} (hlen : ∀ o, (g o).length = o.length) (hv' : validL (l.map g) = true) (h0 : nestE l = 0)
    (hc : ∀ o ∈ l, ∀ o' ∈ l, o' ≠ [] → conP (segsO (g o)) (minP (g o')) = conP (segsO o) (minP o')) : nestE (l.map g) = 0 ∧ nestL (l.map g) = nestL l := by
  have hs : sumN (l.map g) = sumN l := by
    unfold sumN
    rw [List.map_map]
    congr 1
    exact List.map_congr_left fun o _ => hlen o
  have hE : nestE (l.map g) = 0 := by
    unfold nestE at h0 ⊢
    rw [List.length_map, hs, hv']
    split at h0
    · exact absurd h0 (by decide)
    · rename_i h; rw [if_neg h]; rfl
  refine ⟨hE, ?_⟩
  unfold nestL
  rw [if_pos hE, if_pos h0, List.length_map]
  unfold nestTo
  refine List.map_congr_left fun i hi => ?_
  have hi := List.mem_range.1 hi
  have hgd : ∀ k, k < l.length → (l.map g).getD k [] = g (l.getD k []) ∧ l.getD k [] ∈ l := fun k hk => by
    rw [List.getD_eq_getElem?_getD, List.getD_eq_getElem?_getD, List.getElem?_map, List.getElem?_eq_getElem hk]
    exact ⟨rfl, List.getElem_mem _⟩
  unfold nestAt
  rw [(hgd i hi).1, List.length_map]
  by_cases he : l.getD i [] = []
  · have : g (l.getD i []) = [] := List.eq_nil_of_length_eq_zero (by rw [hlen, he]; rfl)
    rw [if_pos he, if_pos this]
  · have : g (l.getD i []) ≠ [] := fun e => he (List.eq_nil_of_length_eq_zero (by rw [← hlen, e]; rfl))
    rw [if_neg he, if_neg this]
    unfold cntN
    congr 1
    refine List.countP_congr fun k hk => ?_
    have hk := List.mem_range.1 hk
    rw [(hgd k hk).1, hc _ (hgd k hk).2 _ (hgd i hi).2 he]
theorem nest_mov {l : List (List Pt)} {dx dy : Int} (h0 : nestE l = 0) (hv' : ∀ o ∈ l, ∀ a ∈ o, vld (movP dx dy a) = true) :
    nestE (l.map fun o => o.map (movP dx dy)) = 0 ∧ nestL (l.map fun o => o.map (movP dx dy)) = nestL l := by
  have hv : ∀ o ∈ l, ∀ a ∈ o, vld a = true := by
    unfold nestE at h0
    split at h0
    · exact absurd h0 (by decide)
    · split at h0
      · rename_i h; exact fun o ho a ha => List.all_eq_true.1 (List.all_eq_true.1 h o ho) a ha
      · exact absurd h0 (by decide)
  refine nest_map (g := fun o => o.map (movP dx dy)) (fun o => List.length_map ..) ?_ h0 (fun o ho o' ho' hne => ?_)
  · refine List.all_eq_true.2 fun o ho => ?_
    obtain ⟨o1, h1, rfl⟩ := List.mem_map.1 ho
    refine List.all_eq_true.2 fun a ha => ?_
    obtain ⟨a1, h2, rfl⟩ := List.mem_map.1 ha
    exact hv' _ h1 _ h2
  · have hm := (minP_spec hne).1
    show conP (segsO (o.map (movP dx dy))) (minP (o'.map (movP dx dy))) = _
    rw [minP_mov dx dy hne]
    exact conP_mov (hv o ho) (hv' o ho) (hv _ ho' _ hm) (hv' _ ho' _ hm)
theorem nest_rev {l : List (List Pt)} (h0 : nestE l = 0) : nestE (l.map List.reverse) = 0 ∧ nestL (l.map List.reverse) = nestL l := by
  have hv : validL l = true := by
    unfold nestE at h0
    split at h0
    · exact absurd h0 (by decide)
    · split at h0
      · assumption
      · exact absurd h0 (by decide)
  refine nest_map (g := List.reverse) (fun o => List.length_reverse ..) ?_ h0 (fun o ho o' ho' hne => ?_)
  · refine List.all_eq_true.2 fun o ho => ?_
    obtain ⟨o1, h1, rfl⟩ := List.mem_map.1 ho
    have := List.all_eq_true.1 hv o1 h1
    rw [List.all_reverse]; exact this
  · rw [minP_rev hne]
    exact conP_rev o _
end Go.Proofs.Yteadnlodccnfcaa

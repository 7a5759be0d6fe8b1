/- Corners lie straight one behind the other: plain laws. -/
import Derived.Test.YtomndgjnhhchdaaTrkMath
namespace Go.Proofs.Ytomndgjnhhchdaa
set_option linter.unusedSimpArgs false
set_option linter.unusedVariables false
namespace Trk
def dst (a b : Cl) : Int := max (a.1 - b.1) (-(a.1 - b.1)) + max (a.2 - b.2) (-(a.2 - b.2))
def strt (a b : Cl) : Prop := a.1 = b.1 ∨ a.2 = b.2
/-- the distances between the first k elements -/
def totTo (l : List Cl) : Nat → Int
  | 0 => 0
  | k + 1 => totTo l k + (match l[k - 1]?, l[k]? with | some a, some b => if k = 0 then 0 else dst b a | _, _ => 0)
def strC (l : List Cl) : Prop := ∀ i a b, l[i]? = some a → l[i + 1]? = some b → strt b a
theorem totTo_succ {l : List Cl} {i : Nat} {a b : Cl} (ha : l[i]? = some a) (hb : l[i + 1]? = some b) : totTo l (i + 2) = totTo l (i + 1) + dst b a := by
  rw [totTo, Nat.add_sub_cancel, ha, hb]
  simp
theorem totTo_one (l : List Cl) : totTo l 1 = 0 := by
  unfold totTo totTo
  simp
  split <;> rfl
theorem totTo_pre {E : List Cl} (F : List Cl) : ∀ k, k ≤ E.length → totTo (E ++ F) k = totTo E k
  | 0, _ => rfl
  | k + 1, h => by
    rw [totTo, totTo, totTo_pre F k (by omega), List.getElem?_append_left (by omega), List.getElem?_append_left (by omega)]
/-- what is known behind k cells: the last corner is the cell at j, from there on the cells lie along d -/
def CornI (l : List Cl) (k : Nat) : Prop :=
  ∃ E j x, cornTo l k = E ++ [x] ∧ l[j]? = some x ∧ j < k ∧ (E ++ [x])[0]? = l[0]? ∧ strC (E ++ [x]) ∧ totTo (E ++ [x]) (E.length + 1) = j ∧ (j + 1 < l.length → k < l.length → ∃ d : Cl, (d = (1, 0) ∨ d = (-1, 0) ∨ d = (0, 1) ∨ d = (0, -1)) ∧ ∀ m y, j ≤ m → m ≤ k → l[m]? = some y → y = (x.1 + (m - j : Int) * d.1, x.2 + (m - j : Int) * d.2)) ∧ (k = l.length → j + 1 = k)
theorem nb_unit {a b : Cl} (h : nb a b = true) : ∃ d : Cl, (d = (1, 0) ∨ d = (-1, 0) ∨ d = (0, 1) ∨ d = (0, -1)) ∧ b = (a.1 + d.1, a.2 + d.2) := by
  rw [← nb_abs] at h
  unfold nbA at h
  simp only [decide_eq_true_eq] at h
  refine ⟨(b.1 - a.1, b.2 - a.2), ?_, Prod.ext (by simp; omega) (by simp; omega)⟩
  simp only [Prod.mk.injEq]
  omega
theorem strC_snoc {E : List Cl} {x y : Cl} (h : strC (E ++ [x])) (hy : strt y x) : strC (E ++ [x] ++ [y]) := by
  intro i a b ha hb
  have hl : (E ++ [x]).length = E.length + 1 := by simp
  by_cases hi : i + 1 < E.length + 1
  · rw [List.getElem?_append_left (by omega)] at ha hb
    exact h i a b ha hb
  · have hb1 := (List.getElem?_eq_some_iff.1 hb).1
    simp at hb1
    have e : i = E.length := by omega
    subst e
    rw [List.getElem?_append_left (by omega)] at ha
    rw [List.getElem?_append_right (by omega)] at hb
    simp at ha hb
    subst ha hb
    exact hy
theorem tot_snoc {E : List Cl} {x y : Cl} : totTo (E ++ [x] ++ [y]) (E.length + 2) = totTo (E ++ [x]) (E.length + 1) + dst y x := by
  rw [totTo_succ (a := x) (b := y) (by simp) (by simp), totTo_pre [y] _ (by simp)]
theorem corn_inv {l : List Cl} (hs : stepOk l = true) : ∀ k, 1 ≤ k → k ≤ l.length → CornI l k
  | 0, h, _ => absurd h (by omega)
  | 1, _, hk => by
    obtain ⟨x, hx⟩ : ∃ x, l[0]? = some x := ⟨_, List.getElem?_eq_getElem (by omega)⟩
    have e : cornTo l 1 = [] ++ [x] := by
      rw [show (1 : Nat) = 0 + 1 from rfl, cornTo_succ hx]
      have : keepAt l 0 = true := by unfold keepAt; split <;> simp
      rw [this]; rfl
    refine ⟨[], 0, x, e, hx, by omega, by simp [hx], fun i a b ha hb => by simp at hb, totTo_one _, fun h1 h2 => ?_, fun h => by omega⟩
    obtain ⟨y, hy⟩ : ∃ y, l[1]? = some y := ⟨_, List.getElem?_eq_getElem (by omega)⟩
    obtain ⟨d, hd, e⟩ := nb_unit ((stepOk_iff.1 hs 0 x hx).2 y hy)
    refine ⟨d, hd, fun m z _ hm hz => ?_⟩
    have : m = 0 ∨ m = 1 := by omega
    rcases this with rfl | rfl
    · rw [hx] at hz; injection hz with hz; subst hz; simp
    · rw [hy] at hz; injection hz with hz; subst hz; rw [e]; simp
  | k + 2, _, hk => by
    obtain ⟨E, j, x, h1, h2, h3, h4, h5, h6, h7, _⟩ := corn_inv hs (k + 1) (by omega) (by omega)
    obtain ⟨d, hd, h7⟩ := h7 (by omega) (by omega)
    obtain ⟨c, hc⟩ : ∃ c, l[k + 1]? = some c := ⟨_, List.getElem?_eq_getElem (by omega)⟩
    have hcd := h7 (k + 1) c (by omega) (by omega) hc
    cases hkp : keepAt l (k + 1)
    · -- not kept
      obtain ⟨a, ha⟩ : ∃ a, l[k]? = some a := ⟨_, List.getElem?_eq_getElem (by omega)⟩
      have had := h7 k a (by omega) (by omega) ha
      unfold keepAt at hkp
      rw [Nat.add_sub_cancel, ha, hc] at hkp
      split at hkp
      · rename_i a' c' b' ea ec eb
        injection ea with ea; injection ec with ec
        subst ea ec
        simp at hkp
        obtain ⟨k1, k2⟩ := hkp
        have hb1 := (List.getElem?_eq_some_iff.1 eb).1
        refine ⟨E, j, x, by rw [cornTo_succ hc]; simp [keepAt, ha, hc, eb, k1, k2, h1], h2, by omega, h4, h5, h6, fun _ _ => ⟨d, hd, fun m y hm1 hm2 hy => ?_⟩, fun h => by omega⟩
        by_cases hm : m = k + 2
        · subst hm
          have : y = b' := by
            have := hy.symm.trans eb
            injection this
          subst this
          rw [had, hcd] at k1 k2
          simp only at k1 k2
          rcases hd with rfl | rfl | rfl | rfl <;> simp at k1 k2 ⊢ <;> exact Prod.ext (by simp <;> omega) (by simp <;> omega)
        · exact h7 m y hm1 (by omega) hy
      · cases hkp
    · refine ⟨E ++ [x], k + 1, c, by rw [cornTo_succ hc, hkp, h1]; simp, hc, by omega, ?_, strC_snoc h5 ?_, ?_, fun h _ => ?_, fun h => by omega⟩
      · rw [List.getElem?_append_left (by simp)]; exact h4
      · rw [hcd]
        unfold strt
        rcases hd with rfl | rfl | rfl | rfl <;> simp
      · rw [List.length_append, List.length_singleton, tot_snoc, h6, hcd]
        unfold dst
        rcases hd with rfl | rfl | rfl | rfl <;> simp <;> omega
      · obtain ⟨b, hb⟩ : ∃ b, l[k + 2]? = some b := ⟨_, List.getElem?_eq_getElem (by omega)⟩
        obtain ⟨d', hd', e⟩ := nb_unit ((stepOk_iff.1 hs (k + 1) c hc).2 b hb)
        refine ⟨d', hd', fun m z hm1 hm hz => ?_⟩
        have : m = k + 1 ∨ m = k + 2 := by omega
        rcases this with rfl | rfl
        · rw [hc] at hz; injection hz with hz; subst hz; simp
        · rw [hb] at hz; injection hz with hz; subst hz; rw [e]; rcases hd' with rfl | rfl | rfl | rfl <;> exact Prod.ext (by simp <;> omega) (by simp <;> omega)
/-- corners lie straight one behind the other; the first one and the last one are the track's ends; the distances add up -/
theorem corn_facts {t : Tr} (h : tval t = true) : strC (cornT t) ∧ totTo (cornT t) (cornT t).length = (t.2.length : Int) - 1 ∧ 0 < (cornT t).length ∧ (cornT t)[0]? = t.2[0]? ∧ (cornT t)[(cornT t).length - 1]? = t.2[t.2.length - 1]? := by
  obtain ⟨_, h1, _⟩ := tval_len h
  obtain ⟨E, j, x, e1, e2, e3, e4, e5, e6, _, e8⟩ := corn_inv (tval_step h) t.2.length h1 (Nat.le_refl _)
  have e9 := e8 rfl
  have e : cornT t = E ++ [x] := by unfold cornT; rw [h]; exact e1
  rw [e]
  refine ⟨e5, ?_, by simp, e4, ?_⟩
  · rw [List.length_append, List.length_singleton, e6]; omega
  · rw [show t.2.length - 1 = j by omega, e2]; simp
end Trk
end Go.Proofs.Ytomndgjnhhchdaa

/- Lemmas: TrkKey TrkOnce. -/
import Derived.Deep.RegionHeld
import Derived.Test.YtneelidbgigehaaGreatT09
import Derived.Test.YtneelidbgigehaaGreatT26
import Derived.Test.YtneelidbgigehaaGreatT10
import Derived.Test.YtneelidbgigehaaGreatT38
/- Cells as keys of maps. -/
namespace Go.Proofs.YtneelidbgigehaaGreat
set_option linter.unusedSimpArgs false
set_option linter.unusedVariables false
set_option maxRecDepth 100000
open Go Go.Maps Go.RowKit
theorem cellRow : (47 : TypeId) < Tryz.prog.types.size := of_decide_eq_true (by kernel_rfl)
theorem cellKeyed : Keyed Tryz.prog 47 := Keyed.of_law (deep_law_laid laidOut (m := 2) (by omega) cellRow (by kernel_rfl) (by rw [Tryz.underlying47]))
theorem cellKey : KeyT Tryz.prog 47 :=
  keyT_of (I := 3) cellKeyed Tryz.underlying47 (by decide) (by decide) Tryz.underlying3 (by kernel_rfl) (by kernel_rfl) (by kernel_rfl) ⟨Tryz.prog.types.size - 1, (Nat.sub_add_cancel (Nat.succ_le_of_lt (Nat.lt_of_le_of_lt (Nat.zero_le _) cellRow))).symm⟩
end Go.Proofs.YtneelidbgigehaaGreat

/- Once of the program, walked. -/
namespace Go.Proofs.YtneelidbgigehaaGreat
set_option linter.unusedSimpArgs false
set_option linter.unusedVariables false
set_option maxRecDepth 100000
open Go Go.RowKit Trk
attribute [local go_sem] Kin.cell Kin.frozen Kin.lt0 Kin.lt1 Kin.lt2 Kin.lt3
theorem cell_map {W : World} {b o : Nat} {es : Array MapEntry} {c : Nat} (hb : W.heap[b]? = some (.map es c)) : W.cell? ⟨b, o, none⟩ = none := by
  unfold World.cell?; simp [hb]
theorem rd_ne_map {α : Type} {k : Nat} {enc : α → List Value} {W : World} {v : Value} {xs : List α} (h : Rd k enc W v xs) (hk : ∀ x, enc x ≠ []) {b : Nat} {es : Array MapEntry} {c : Nat} (hb : W.heap[b]? = some (.map es c)) : xs = [] ∨ v.ownBlock ≠ some b := by
  obtain ⟨A, cap, rfl, hc, ho⟩ := h
  rcases ho with ho | ⟨b', off, rfl, hlt, hcell⟩
  · exact .inl ho
  · cases xs with
    | nil => exact .inl rfl
    | cons x r =>
      right
      intro e
      have e1 : b' = b := by simpa [Value.ownBlock] using e
      subst e1
      cases he : enc x with
      | nil => exact hk x he
      | cons u us =>
        have := hcell 0 x rfl 0 u (by rw [he]; rfl)
        rw [cell_map hb] at this; cases this
theorem own_ne_map {W : World} {base size n : Nat} {e : TypeId} {v : Value} {cs : List Value} (h : W.ownsRow base e size v n cs) {b : Nat} {es : Array MapEntry} {c : Nat} (hb : W.heap[b]? = some (.map es c)) : v.ownBlock ≠ some b := by
  rcases h.2 with ⟨rfl, _⟩ | ⟨g, cap, cur, rfl, _, hh, _⟩
  · simp [Value.ownBlock]
  · intro e1
    have : g = b := by simpa [Value.ownBlock] using e1
    subst this
    rw [hb] at hh; cases hh
theorem blk_ne_map {W : World} {g : Nat} {t : TypeId} {cs : Array Value} (h : Blk W g t cs) {b : Nat} {es : Array MapEntry} {c : Nat} (hb : W.heap[b]? = some (.map es c)) : some g ≠ some b := by
  intro e; injection e with e; subst e
  unfold Blk at h
  rw [hb] at h; cases h
theorem OwnM.isMap {P : Program} {K : TypeId} {w : World} {b n : Nat} {F : Key → Option Value} (h : OwnM P K w b n F) : ∃ es c, w.heap[b]? = some (.map es c) := by
  obtain ⟨D, ⟨es, clock, hb, _⟩, _⟩ := h; exact ⟨es, clock, hb⟩
theorem OwnTrs.grownM {base b : Nat} {W W' : World} {u : Value} {xs : List Tr} (h : OwnTrs base W u xs) (hg : W.grownBy W' (some b)) {es : Array MapEntry} {c : Nat} (hb : W.heap[b]? = some (.map es c)) : OwnTrs base W' u xs := by
  obtain ⟨hs, h1, h2, h3⟩ := h
  refine ⟨hs, own_grownBy h1 hg (own_ne_map h1 hb), ⟨h2.1, fun i p x hp hx => ⟨(h2.2 i p x hp hx).1, (h2.2 i p x hp hx).2.grown hg (rd_ne_map (h2.2 i p x hp hx).2 (fun x => by simp [encPt]) hb)⟩⟩, h3⟩
theorem flat_setB : ∀ (L : List Bool) (j : Nat) (b : Bool), (L.flatMap encB).set j (.bool b) = (L.set j b).flatMap encB
  | [], j, b => by simp
  | x :: r, 0, b => by simp [encB]
  | x :: r, j + 1, b => by
    have := flat_setB r j b
    simp only [List.flatMap_cons, encB, List.singleton_append, List.set_cons_succ] at this ⊢
    rw [this]
theorem own_setB {W : World} {base g n cap : Nat} {L : List Bool} (h : W.ownsRow base 4 1 (.slice (some ⟨g, 0, none⟩) n cap) n (L.flatMap encB)) (j : Nat) (b : Bool) :
    (W.setCell ⟨g, j, none⟩ (.bool b)).ownsRow base 4 1 (.slice (some ⟨g, 0, none⟩) n cap) n ((L.set j b).flatMap encB) := by
  have := (World.ownsRow.stored h j (.bool b)).1
  rw [flat_setB] at this
  exact this
def setF (S : List Cl) : Key → Option Value := fun c => if S.contains c then some (.bool true) else none
theorem setF_upd (S : List Cl) (c : Cl) : updM (setF S) c (.bool true) = setF (c :: S) := by
  funext d
  unfold updM setF
  by_cases h : d = c
  · subst h; simp
  · rw [if_neg h]
    have e : (c :: S).contains d = S.contains d := by
      rw [List.contains_cons]
      have : (d == c) = false := by simpa using h
      rw [this, Bool.false_or]
    rw [e]
theorem setF_get (S : List Cl) (c : Cl) : ((setF S c).getD (.bool false)) = .bool (S.contains c) := by
  unfold setF; cases S.contains c <;> rfl
theorem zeroB (w : World) : (zeroValue 4).run Tryz.prog w = .ok (.bool false) w := by kernel_rfl
theorem okc_wf {c : Cl} (h : okc c = true) : wfK c := by
  have := okc_iff.1 h
  constructor
  · exact WalkArith.wf_i64 (by omega)
  · exact WalkArith.wf_i64 (by omega)
/-- the flags behind j cells -/
def flg (S l : List Cl) (j : Nat) : List Bool := keptL S (l.take j) ++ List.replicate (l.length - j) false
theorem flg_step {S l : List Cl} {j : Nat} {c : Cl} (hc : l[j]? = some c) : (flg S l j).set j (!(((l.take j).reverse ++ S).contains c)) = flg S l (j + 1) := by
  have hj := (List.getElem?_eq_some_iff.1 hc).1
  have ht : l.take (j + 1) = l.take j ++ [c] := by rw [List.take_add_one, hc]; rfl
  unfold flg
  have hl : (keptL S (l.take j)).length = j := by rw [keptL_len, List.length_take]; omega
  rw [List.set_append_right _ _ (by omega), hl, Nat.sub_self, show l.length - j = (l.length - (j + 1)) + 1 by omega, List.replicate_succ, List.set_cons_zero, ht, keptL_snoc, List.append_assoc]
  rfl
theorem flg_all {S l : List Cl} : flg S l l.length = keptL S l := by unfold flg; simp
def allTo (S l : List Cl) (j : Nat) : Bool := (keptL S (l.take j)).all id
theorem allTo_step {S l : List Cl} {j : Nat} {c : Cl} (hc : l[j]? = some c) : allTo S l (j + 1) = (allTo S l j && !(((l.take j).reverse ++ S).contains c)) := by
  have ht : l.take (j + 1) = l.take j ++ [c] := by rw [List.take_add_one, hc]; rfl
  unfold allTo
  rw [ht, keptL_snoc, List.all_append]; simp
theorem rev_step {S l : List Cl} {j : Nat} {c : Cl} (hc : l[j]? = some c) : (l.take (j + 1)).reverse ++ S = c :: ((l.take j).reverse ++ S) := by
  have ht : l.take (j + 1) = l.take j ++ [c] := by rw [List.take_add_one, hc]; rfl
  rw [ht]; simp
end Go.Proofs.YtneelidbgigehaaGreat

/- What the functions on runs return. (joined: RunsWalks RunsJoin RunsRef) -/
import Derived.Test.YtomndgjnhhchdaaRows
import Derived.Test.YtomndgjnhhchdaaPlain
import Derived.Test.YtomndgjnhhchdaaBase
/- What the functions on runs return. -/
namespace Go.Proofs.Ytomndgjnhhchdaa
set_option linter.unusedSimpArgs false
set_option linter.unusedVariables false
open Go.RowKit Runs
attribute [local go_sem] Kin.cell Kin.frozen
abbrev rv (r : Run) : Value := .agg #[.int .i64 r.1, .int .i64 r.2]
def encRun (r : Run) : List Value := [.int .i64 r.1, .int .i64 r.2]
theorem vstep_f1 {l : List Run} {k : Nat} {r : Run} (hr : l[k]? = some r) (h : r.2 ≤ r.1) : vstep l k = false := by
  have h' : decide (r.1 < r.2) = false := decide_eq_false (by omega)
  simp [vstep, hr, h']
theorem vstep_f2 {l : List Run} {k : Nat} {r : Run} (hr : l[k]? = some r) (h : (!fits r) = true) : vstep l k = false := by
  simp at h; simp [vstep, hr, h]
theorem vstep_f3 {l : List Run} {k : Nat} {r q : Run} (hr : l[k]? = some r) (hq : ∀ x, l[k - 1]? = some x → x = q) (h0 : 0 < k) (h : r.1 ≤ q.2) : vstep l k = false := by
  have hk : k < l.length := (List.getElem?_eq_some_iff.1 hr).1
  have hl : l[k - 1]? = some l[k - 1] := List.getElem?_eq_getElem (by omega)
  have := hq _ hl
  have h1 : decide (q.2 < r.1) = false := decide_eq_false (by omega)
  have h2 : (k == 0) = false := by simp; omega
  simp [vstep, hr, hl, this, h1, h2]
theorem vstep_t {l : List Run} {k : Nat} {r q : Run} (hr : l[k]? = some r) (hq : ∀ x, l[k - 1]? = some x → x = q) (h1 : ¬ r.2 ≤ r.1) (h2 : (!fits r) = false) (h3 : 0 < k → ¬ r.1 ≤ q.2) : vstep l k = true := by
  have hk : k < l.length := (List.getElem?_eq_some_iff.1 hr).1
  have hl : l[k - 1]? = some l[k - 1] := List.getElem?_eq_getElem (by omega)
  have := hq _ hl
  simp at h2
  simp only [vstep, hr, hl, this, h2, Bool.and_eq_true, Bool.or_eq_true, beq_iff_eq, decide_eq_true_eq]
  refine ⟨⟨by omega, trivial⟩, ?_⟩
  rcases Nat.eq_zero_or_pos k with h0 | h0
  · exact .inl h0
  · exact .inr (by have := h3 h0; omega)
theorem valid_false {l : List Run} {k : Nat} (hk : k < l.length) (h : vstep l k = false) : valid l = false := by
  simp only [valid, validTo, List.all_eq_false]
  exact ⟨k, by simpa using hk, by simp [h]⟩
theorem validTo_succ {l : List Run} {k : Nat} (h1 : validTo l k = true) (h : vstep l k = true) : validTo l (k + 1) = true := by
  simp only [validTo, List.range_succ, List.all_append, List.all_cons, List.all_nil, Bool.and_true, Bool.and_eq_true] at *
  exact ⟨h1, h⟩
end Go.Proofs.Ytomndgjnhhchdaa
/- What join returns: the joined runs. -/
namespace Go.Proofs.Ytomndgjnhhchdaa
set_option linter.unusedSimpArgs false
set_option linter.unusedVariables false
open Go.RowKit Runs
attribute [local go_sem] Kin.cell Kin.frozen
theorem infoRun : (Try.prog.info? 60).map (fun i => (i.zero, i.size, i.bytes)) = some (some (.agg #[.int .i64 0, .int .i64 0]), 2, 16) := by kernel_rfl
theorem encRun_len (r : Run) : (encRun r).length = 2 := rfl
/-- the runs joined so far -/
def jnTo (l : List Run) (k : Nat) : List Run := jn (l.take k)
theorem jnTo_succ {l : List Run} {k : Nat} {r : Run} (h : l[k]? = some r) : jnTo l (k + 1) = jstep (jnTo l k) r := by
  unfold jnTo jn
  rw [List.take_add_one, h, List.foldl_append]; rfl
theorem jstep_len (out : List Run) (r : Run) : (jstep out r).length ≤ out.length + 1 := by
  unfold jstep; split
  · split
    · simp
    · simp
  · simp
theorem jnTo_len (l : List Run) (k : Nat) : (jnTo l k).length ≤ k := by
  have : ∀ (l out : List Run), (l.foldl jstep out).length ≤ out.length + l.length := by
    intro l
    induction l with
    | nil => intro out; simp
    | cons p l ih => intro out; have := ih (jstep out p); have := jstep_len out p; simp only [List.foldl_cons, List.length_cons]; omega
  have := this (l.take k) []
  simp only [List.length_nil, Nat.zero_add] at this
  exact Nat.le_trans this (by rw [List.length_take]; exact Nat.min_le_left _ _)
theorem jstep_nil (r : Run) : jstep [] r = [r] := rfl
theorem jstep_yes {E : List Run} {q r : Run} (h : r.1 ≤ q.2) : jstep (E ++ [q]) r = E ++ [(q.1, max q.2 r.2)] := by simp [jstep, h]
theorem jstep_no {E : List Run} {q r : Run} (h : ¬ r.1 ≤ q.2) : jstep (E ++ [q]) r = E ++ [q] ++ [r] := by simp [jstep, h]
theorem set_last (E : List Run) (q : Run) (x : Int) : ((E ++ [q]).flatMap encRun).set (E.length * 2 + 1) (.int .i64 x) = (E ++ [(q.1, x)]).flatMap encRun := by
  rw [List.flatMap_append, List.flatMap_append, List.set_append_right _ _ (by rw [flat_len encRun_len]; omega), flat_len encRun_len, show E.length * 2 + 1 - E.length * 2 = 1 by omega]
  rfl
end Go.Proofs.Ytomndgjnhhchdaa
/- What the chapter's definitions on runs return: insert, bounds, in. -/
namespace Go.Proofs.Ytomndgjnhhchdaa
set_option linter.unusedSimpArgs false
set_option linter.unusedVariables false
open Go.RowKit Runs
attribute [local go_sem] Kin.cell Kin.frozen Kin.lt0 Kin.lt1 Kin.lt2
theorem insI_no {l : List Int} {x : Int} {k : Nat} {r : Int} {E : List Int} (HE : (E, false) = insTo l x k) (h : l[k]? = some r) (hx : r < x) : insTo l x (k + 1) = (E ++ [r], false) := by
  rw [insTo_succ h, ← HE, istep, if_neg (by simp; omega)]
theorem insI_lt {l : List Int} {x : Int} {k : Nat} {r : Int} {E : List Int} (HE : (E, false) = insTo l x k) (h : l[k]? = some r) (hx : x < r) : insTo l x (k + 1) = (E ++ [x] ++ [r], true) := by
  rw [insTo_succ h, ← HE, istep, if_pos (by simp; omega), if_pos hx]
theorem insI_eq {l : List Int} {x : Int} {k : Nat} {r : Int} {E : List Int} (HE : (E, false) = insTo l x k) (h : l[k]? = some r) (h1 : x ≤ r) (h2 : r ≤ x) : insTo l x (k + 1) = (E ++ [r], true) := by
  rw [insTo_succ h, ← HE, istep, if_pos (by simp; omega), if_neg (by omega)]
theorem insI_done {l : List Int} {x : Int} {k : Nat} {r : Int} {E : List Int} (HE : (E, true) = insTo l x k) (h : l[k]? = some r) : insTo l x (k + 1) = (E ++ [r], true) := by
  rw [insTo_succ h, ← HE, istep, if_neg (by simp)]
theorem oneR : OneC encRun := fun x u hu => by simp [encRun] at hu; rcases hu with rfl | rfl <;> rfl
theorem mem_hit {l : List Run} {k : Nat} {r : Run} {x : Int} (h : l[k]? = some r) (h1 : r.1 ≤ x) (h2 : x < r.2) : mem l x = true := mem_iff.2 ⟨r, List.mem_of_getElem? h, h1, h2⟩
theorem mem_take_no {l : List Run} {k : Nat} {r : Run} {x : Int} (h : l[k]? = some r) (hm : mem (l.take k) x = false) (h1 : ¬ (r.1 ≤ x ∧ x < r.2)) : mem (l.take (k + 1)) x = false := by
  rw [List.take_add_one, h, mem_append, hm]
  simp [mem, inR]; omega
theorem Rd.take {α : Type} {k : Nat} {enc : α → List Value} {W : World} {A : Option Addr} {n c m : Nat} {xs : List α} (h : Rd k enc W (.slice A n c) xs) (hm : m ≤ n) : Rd k enc W (.slice A m c) (xs.take m) := by
  obtain ⟨A', cap, hv, hc, h⟩ := h
  injection hv with h1 h2 h3
  subst h1 h2 h3
  refine ⟨A, c, by rw [List.length_take, Nat.min_eq_left hm], by rw [List.length_take]; omega, ?_⟩
  rcases h with h | ⟨b, off, hA, hlt, hc⟩
  · left; subst h; simp
  · right; refine ⟨b, off, hA, hlt, fun i x hx => hc i x ?_⟩
    rw [List.getElem?_take] at hx
    split at hx
    · exact hx
    · cases hx
theorem bstep_yes {b : List Int} {r : Run} (h : r.1 < r.2) : bstep b r = ins (ins b r.1) r.2 := if_pos h
theorem bstep_no {b : List Int} {r : Run} (h : r.2 ≤ r.1) : bstep b r = b := if_neg (by omega)
end Go.Proofs.Ytomndgjnhhchdaa

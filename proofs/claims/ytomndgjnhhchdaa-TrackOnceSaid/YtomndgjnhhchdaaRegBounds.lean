/- The chapter's sorted bounds of runs. -/
import Derived.Test.YtomndgjnhhchdaaPlain
import Derived.Test.YtomndgjnhhchdaaRegKitA
import Derived.Test.YtomndgjnhhchdaaRunsRef3
namespace Go.Proofs.Ytomndgjnhhchdaa
set_option linter.unusedSimpArgs false
set_option linter.unusedVariables false
open Go.RowKit Runs Reg
attribute [local go_sem] Kin.cell Kin.frozen Kin.lt0 Kin.lt1 Kin.lt2 Kin.lt3 run_mkf
theorem two_max (x y : Int) : [x, y].length ≤ maxLen := by unfold maxLen; simp
theorem ownI_cell {base g n cap : Nat} {W : World} {L : List Int} (h : OwnI base W (.slice (some ⟨g, 0, none⟩) n cap) L) {j : Nat} (hj : j < L.length) : W.cell? ⟨g, j, none⟩ = some (.int .i64 (at_ L j)) := by
  obtain ⟨A, cap', hv, _, ho⟩ := Rd.own encI_len h.own
  injection hv with e1 e2 e3
  rcases ho with ho | ⟨b, off, e, _, hc⟩
  · rw [ho] at hj; simp at hj
  · rw [e] at e1
    injection e1 with e1
    injection e1 with e1 e4 _
    subst e1 e4
    have := hc j L[j] (List.getElem?_eq_getElem hj) 0 _ rfl
    rw [at_get hj]
    simpa using this
theorem ownI_len {base g n cap : Nat} {W : World} {L : List Int} (h : OwnI base W (.slice (some ⟨g, 0, none⟩) n cap) L) : n = L.length := by
  obtain ⟨A, cap', hv, _, _⟩ := Rd.own encI_len h.own
  injection hv
theorem ownI_set {base g n cap k : Nat} {W : World} {L : List Int} {x : Int} (h : OwnI base W (.slice (some ⟨g, 0, none⟩) n cap) L) (hk : k < L.length) : OwnI base (W.setCell ⟨g, k, none⟩ (.int .i64 x)) (.slice (some ⟨g, 0, none⟩) n cap) (L.set k x) := by
  have hn := ownI_len h
  subst hn
  have := own_set1 (y := x) encI_len rfl h.own k hk
  unfold OwnI
  rw [List.length_set]
  exact this
end Go.Proofs.Ytomndgjnhhchdaa

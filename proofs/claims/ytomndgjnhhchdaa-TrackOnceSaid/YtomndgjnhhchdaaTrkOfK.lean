/- region.Of: words for its walk. -/
import Derived.Test.YtomndgjnhhchdaaTrkSort
import Derived.Test.YtomndgjnhhchdaaLastKit
import Derived.Test.YtomndgjnhhchdaaFloatT
import Derived.Test.YtomndgjnhhchdaaRegGen
import Derived.Test.YtomndgjnhhchdaaOfWalk
import Derived.Lib.MinMax
import Derived.Lib.SliceRun
namespace Go.Proofs.Ytomndgjnhhchdaa
set_option linter.unusedSimpArgs false
set_option linter.unusedVariables false
set_option maxRecDepth 100000
open Go.RowKit Runs Reg
attribute [local go_sem] Kin.cell Kin.frozen Kin.lt0 Kin.lt1 Kin.lt2 Kin.lt3 run_mkf
theorem regOk_is {b : Bool} (x : Int) (w : World) (h : okC x = b) : Calls Try.prog 49 #[.int .i64 x] w fun e w' => e = .returned (.bool b) ∧ Below w.heap.size w w' := by
  subst h
  go_enter Try.func49, Try.ntmps49
  go_wp2
  all_goals
    go_ret
    exact ⟨ret_bool (by first | (simp [okC]; done) | (simp [okC, *]; done) | (rw [Bool.eq_iff_iff]; simp [okC]; omega)), (by repeat (first | with_reducible (first | exact blA | exact blB | refine blC _ ?_ | refine blD ?_ ?_ _ | refine blE ?_ | refine blF _ ?_ | refine blG ?_ _ | refine blH ?_ | refine blI ?_ ?_ _) | (simp only [World.size_alloc]; omega) | (simp <;> omega)))⟩
theorem run_eql_nilC (a : Option Addr) (l c : Nat) (w : World) : (binOp .eql 22 (.slice a l c) (.slice none 0 0)).run Try.prog w = .ok (.bool a.isNone) w :=
  Lib.run_eql_slice_nil w _ 31 a l c 0 0 (by kernel_rfl)
set_option maxHeartbeats 4000000 in
theorem clone_cells (v : Value) (l : List (Int × Int)) (w : World) (h : Rd 2 encPt w v l) (hlen : l.length ≤ 1099511627776) :
    Calls Try.prog 50 #[v] w fun e w' => (∃ u, e = .returned u ∧ w'.ownsRow w.heap.size 31 2 u l.length (l.flatMap encPt)) ∧ Below w.heap.size w w' := by
  obtain ⟨A, capA, rfl, hcapA, hopA⟩ := h.open_
  have HA := Lib.hid hopA
  have HLA := Lib.hid h
  clear hopA h
  have hnl := run_eql_nilC
  cases A with
  | none =>
    have hl : l = [] := by
      rcases l with _ | ⟨r, l⟩
      · rfl
      · obtain ⟨b, off, e, _⟩ := HA.out 0 r rfl
        cases e
    subst hl
    go_enter Try.func50, Try.ntmps50
    go_wp2
    go_ret
    exact ⟨⟨_, rfl, World.ownsRow_nil _ _ _ _⟩, (by repeat (first | with_reducible (first | exact blA | exact blB | refine blC _ ?_ | refine blD ?_ ?_ _ | refine blE ?_ | refine blF _ ?_ | refine blG ?_ _ | refine blH ?_ | refine blI ?_ ?_ _) | (simp only [World.size_alloc]; omega) | (simp <;> omega)))⟩
  | some p =>
    go_enter Try.func50, Try.ntmps50
    go_wp2_with (at_builtin; refine wpList_app _ rfl _ _ 22 rfl encPt_len (by decide) oneP w.heap.size 31 (.agg #[.int .i64 0, .int .i64 0]) 16 infoCell rfl Try.underlying22 _ _ _ _ rfl (own_made w encPt_len w.heap.size _ [] #[] rfl (Nat.le_refl _) (by decide)) _ _ _ rfl (HLA.out.below (by repeat (first | with_reducible (first | exact blA | exact blB | refine blC _ ?_ | refine blD ?_ ?_ _ | refine blE ?_ | refine blF _ ?_ | refine blG ?_ _ | refine blH ?_ | refine blI ?_ ?_ _) | (simp only [World.size_alloc]; omega) | (simp <;> omega)))) ?c1 (by decide) ?c2 ?_; (case c1 => (first | (simp only [List.length_append, List.length_cons, List.length_nil]; omega) | omega | (simp; omega))); (case c2 => exact (by repeat (first | with_reducible exact Nat.le_refl _ | assumption | with_reducible refine le_alloc ?_ _ | with_reducible refine le_drew ?_ | with_reducible refine Kin.le _ ?_ | assumption | omega | (simp only [World.size_alloc]; omega)))); intro v' w1 hown' hg hbel hat'; (obtain ⟨y, rfl⟩ : ∃ y : Kin w, y.1 = w1 := ⟨⟨w1, Below.trans (by repeat (first | with_reducible (first | exact blA | exact blB | refine blC _ ?_ | refine blD ?_ ?_ _ | refine blE ?_ | refine blF _ ?_ | refine blG ?_ _ | refine blH ?_ | refine blI ?_ ?_ _) | (simp only [World.size_alloc]; omega) | (simp <;> omega))) hbel⟩, rfl⟩); clear hbel hg hat')
    go_ret
    exact ⟨⟨_, rfl, by simpa using hown'⟩, (by repeat (first | with_reducible (first | exact blA | exact blB | refine blC _ ?_ | refine blD ?_ ?_ _ | refine blE ?_ | refine blF _ ?_ | refine blG ?_ _ | refine blH ?_ | refine blI ?_ ?_ _) | (simp only [World.size_alloc]; omega) | (simp <;> omega)))⟩
abbrev OwnRL (base B : Nat) (W : World) (v : Value) (hs : List RowH) (h : RowH) (E : List Reg.Row) (x : Reg.Row) : Prop := OwnL base B 58 60 2 encRow rsl rtag 2 encRun (fun w : Reg.Row => w.2) W v hs h E x
def RowsAt (base : Nat) (W : World) (u : Value) (rows : List Reg.Row) : Prop :=
  (rows = [] ∧ u = .slice none 0 0) ∨ ∃ E x hs h B, rows = E ++ [x] ∧ OwnRL base B W u hs h E x
theorem RowsAt.below {base : Nat} {W W' : World} {u : Value} {rows : List Reg.Row} (h : RowsAt base W u rows) (hb : Below W.heap.size W W') : RowsAt base W' u rows := by
  rcases h with h | ⟨E, x, hs, h, B, h1, h2⟩
  · exact .inl h
  · exact .inr ⟨E, x, hs, h, B, h1, h2.below hb⟩
theorem RowsAt.own {base : Nat} {W : World} {u : Value} {rows : List Reg.Row} (h : RowsAt base W u rows) : OwnRows base W u rows := by
  rcases h with ⟨rfl, rfl⟩ | ⟨E, x, hs, h, B, rfl, h2⟩
  · exact OwnN.nil
  · exact h2.close encRun_len (by decide)
theorem OwnL.grown {H α β : Type} {k k2 : Nat} {encH : H → List Value} {sl : H → Value} {tag : H → α → Prop} {enc2 : β → List Value} {sub : α → List β} {base B : Nat} {e e2 : TypeId} {W W' : World} {v : Value} {hs : List H} {h : H} {xs : List α} {x : α} {p : Nat}
    (o : OwnL base B e e2 k encH sl tag k2 enc2 sub W v hs h xs x) (hg : W.grownBy W' (some p)) (h1 : v.ownBlock ≠ some p) (h2 : ∀ (i : Nat) (q : H) (y : α), hs[i]? = some q → xs[i]? = some y → sub y = [] ∨ (sl q).ownBlock ≠ some p) (h3 : (sl h).ownBlock ≠ some p) :
    OwnL base B e e2 k encH sl tag k2 enc2 sub W' v hs h xs x :=
  ⟨own_grownBy o.own hg h1, ⟨o.nest.1, fun i q y hq hy => ⟨(o.nest.2 i q y hq hy).1, (o.nest.2 i q y hq hy).2.grown hg (h2 i q y hq hy)⟩⟩, o.far, o.tg, own_grownBy o.inner hg h3, o.low, Nat.le_trans o.top hg.size⟩
theorem OwnRL.set_ {base B p i : Nat} {W : World} {v u : Value} {hs : List RowH} {h : RowH} {E : List Reg.Row} {x : Reg.Row} {t : TypeId} {A : Option Addr} {n c : Nat} (o : OwnRL base B W v hs h E x) (hB : Blk W p t #[.slice A n c]) (h1 : 58 ≠ t) (h2 : 60 ≠ t) : OwnRL base B (W.setCell ⟨p, i, none⟩ u) v hs h E x :=
  OwnL.grown o (grownBy_set _) (own_ne o.own hB h1) (fun i q y hq hy => runs_far (o.nest.2 i q y hq hy).2 hB) (own_ne o.inner hB h2)
theorem flat_lastR (l : List Run) (a b b' : Int) : ((l ++ [(a, b)]).flatMap encRun).set (l.length * 2 + 1) (.int .i64 b') = (l ++ [(a, b')]).flatMap encRun := by
  have hl : (l.flatMap encRun).length = l.length * 2 := by
    induction l with
    | nil => rfl
    | cons x r ih => rw [List.flatMap_cons, List.length_append, ih, encRun_len, List.length_cons]; omega
  rw [List.flatMap_append, List.flatMap_append, List.set_append_right _ _ (by omega), hl, Nat.add_sub_cancel_left]
  rfl
end Go.Proofs.Ytomndgjnhhchdaa

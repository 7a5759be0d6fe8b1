/- The chapter's example. -/
import Derived.Test.YteadnlodccnfcaaCtrAwkA
import Derived.Test.YteadnlodccnfcaaCtrChain
namespace Go.Proofs.Yteadnlodccnfcaa
set_option linter.unusedSimpArgs false
set_option linter.unusedVariables false
set_option maxRecDepth 100000
open Go.RowKit Planar Go.Sort
attribute [local go_sem] Kin.cell Kin.frozen Kin.lt0 Kin.lt1 Kin.lt2 Kin.lt3 run_mkf
theorem chain_is {E : Int} {R : List (List Pt)} (v : Value) (l : List Sg) (w : World) (h : Rd 4 encSg w v l) (hw : ∀ s ∈ l, wfS s) (hE : chErr l = E) (hR : chLst l = R) :
    Calls Try.prog 14 #[v] w fun e w' => (∃ u, e = .returned (.tuple #[u, .int .i64 E]) ∧ RdPols w' u R) ∧ Below w.heap.size w w' := by
  subst hE hR
  exact (chain_any v l w h hw).mono fun e w' ⟨⟨u, he, ho⟩, hb⟩ => ⟨⟨u, he, OwnN.rd encPol_len ho⟩, hb⟩
theorem nest_is {E : Int} {R : List Int} (v : Value) (l : List (List Pt)) (w : World) (h : RdPols w v l) (hl : l.length ≤ 1000) (hb : ∀ o ∈ l, o.length ≤ 1000) (hE : nestE l = E) (hR : nestL l = R) :
    Calls Try.prog 25 #[v] w fun e w' => (∃ u, e = .returned (.tuple #[u, .int .i64 E]) ∧ Rd 1 encI w' u R) ∧ Below w.heap.size w w' := by
  subst hE hR
  exact (nest_any v l w h hl hb).mono fun e w' ⟨⟨u, he, ho⟩, hb⟩ => ⟨⟨u, he, Rd.own encI_len ho⟩, hb⟩
theorem square_is (a b f : Int) (k : Nat) (w : World) (hk : k < 4) (hf : f = (k : Int)) {o : List Pt} (ho : sqP a b k = o) :
    Calls Try.prog 28 #[.int .i64 a, .int .i64 b, .int .i64 f] w fun e w' => (∃ S c, e = .returned (.agg #[.slice S 4 c]) ∧ Rd 2 encPt w' (.slice S 4 c) o) ∧ Below w.heap.size w w' := by
  subst hf ho
  refine (square_any a b k w hk).mono fun e w' ⟨⟨S, c, he, ho⟩, hb⟩ => ⟨⟨S, c, he, ?_⟩, hb⟩
  have hl : (sqP a b k).length = 4 := by simp [sqP]
  have h2 : w'.ownsRow w.heap.size 36 2 (.slice S 4 c) (sqP a b k).length ((sqP a b k).flatMap encPt) := by rw [hl]; exact ho
  exact Rd.own encPt_len h2
def awkL : List Sg := [((0, 0), (1, 0)), ((1, 1), (0, 0)), ((1, 0), (1, 1))]
def awkS : List Sg := [((0, 0), (1, 0)), ((1, 0), (1, 1)), ((1, 1), (0, 0))]
theorem awk_E : chErr awkL = 0 := by decide
theorem awk_S : sortS awkL = awkS := sortS_eq (by decide) (by decide)
theorem awk_C : chainP awkS = [[(0, 0), (1, 0), (1, 1)]] := by
  have e1 : pop awkS (0, 0) = [((1, 0), (1, 1)), ((1, 1), (0, 0))] := by decide
  have e2 : pop [((1, 0), (1, 1)), ((1, 1), (0, 0))] ((1, 0) : Pt) = [((1, 1), (0, 0))] := by decide
  have e3 : pop [((1, 1), (0, 0))] ((1, 1) : Pt) = [] := by decide
  unfold awkS at e1 ⊢
  rw [chain_cons, walk_on (b := (1, 0)) (t := []) (by decide) (by decide), e1, walk_on (b := (1, 1)) (t := []) (by decide) (by decide), e2, walk_end (b := (0, 0)) (t := []) (by decide) rfl, e3, chain_nil]
theorem awk_R : chLst awkL = [[(0, 0), (1, 0), (1, 1)]] := by
  unfold chLst
  rw [if_pos awk_E, awk_S, awk_C]
theorem awk_wf : ∀ s ∈ awkL, wfS s := by
  intro s hs
  simp only [awkL, List.mem_cons, List.not_mem_nil, or_false] at hs
  rcases hs with rfl | rfl | rfl <;> exact ⟨⟨by decide, by decide⟩, ⟨by decide, by decide⟩⟩
def awkN : List (List Pt) := [[(0, 0), (9, 0), (9, 9), (0, 9)], [(2, 2), (4, 2), (4, 4), (2, 4)]]
theorem awk_NE : nestE awkN = 0 := by decide
theorem awk_NL : nestL awkN = [0, 1] := by decide
theorem awk_rd (w : World) : Rd 4 encSg (w.alloc (.cells #[.int .i64 0, .int .i64 0, .int .i64 1, .int .i64 0, .int .i64 1, .int .i64 1, .int .i64 0, .int .i64 0, .int .i64 1, .int .i64 0, .int .i64 1, .int .i64 1] 38)) (.slice (some ⟨w.heap.size, 0, none⟩) 3 3) awkL :=
  rd_lit w encSg_len 38 awkL rfl (by simp [maxLen, awkL]) rfl rfl
theorem pols_two {W : World} {v : Value} {A B : Option Addr} {n c m d : Nat} {o q : List Pt} (h : Rd 1 encPol W v [((A, n, c) : PolH), (B, m, d)]) (ho : Rd 2 encPt W (.slice A n c) o) (hq : Rd 2 encPt W (.slice B m d) q) : RdPols W v [o, q] :=
  ⟨_, h, rfl, fun i p x hp hx => by
    match i, hp, hx with
    | 0, hp, hx => simp at hp hx; subst hp hx; exact ⟨trivial, ho⟩
    | 1, hp, hx => simp at hp hx; subst hp hx; exact ⟨trivial, hq⟩
    | i + 2, hp, hx => simp at hp⟩
set_option maxHeartbeats 4000000 in
theorem awake16_any (w : World) : Calls Try.prog 19 #[] w fun e w' => e = .returned (.bool true) ∧ Below w.heap.size w w' := by
  go_enter Try.func19, Try.ntmps19
  go_wp2_with fail
  (go_at_call 14; (with_reducible refine (Kin.callK (W := w) (by repeat (first | with_reducible (first | exact blA | exact blB | refine blC _ ?_ | refine blD ?_ ?_ _ | refine blE ?_ | refine blF _ ?_ | refine blG ?_ _ | refine blH ?_ | refine blI ?_ ?_ _) | (simp only [World.size_alloc]; omega) | (simp <;> omega))) (chain_is _ awkL _ (awk_rd w) awk_wf awk_E awk_R)).mono ?_); rintro e w' ⟨z1, ⟨u, rfl, hu⟩, hz1, rfl⟩; skip)
  have HU := Lib.hid hu
  clear hu hz1
  go_wp2_with fail
  (go_at_call 28; (with_reducible refine (Kin.callK (W := w) (by repeat (first | with_reducible (first | exact blA | exact blB | refine blC _ ?_ | refine blD ?_ ?_ _ | refine blE ?_ | refine blF _ ?_ | refine blG ?_ _ | refine blH ?_ | refine blI ?_ ?_ _) | (simp only [World.size_alloc]; omega) | (simp <;> omega))) (square_is 0 9 0 0 _ (by omega) rfl (o := [(0, 0), (9, 0), (9, 9), (0, 9)]) (by decide))).mono ?_); rintro e w' ⟨z2, ⟨S2, c2, rfl, h2⟩, hz2, rfl⟩; skip)
  replace HU := Lib.hid (HU.out.below hz2)
  have H2 := Lib.hid h2
  clear h2 hz2
  go_wp2_with fail
  (go_at_call 28; (with_reducible refine (Kin.callK (W := w) (by repeat (first | with_reducible (first | exact blA | exact blB | refine blC _ ?_ | refine blD ?_ ?_ _ | refine blE ?_ | refine blF _ ?_ | refine blG ?_ _ | refine blH ?_ | refine blI ?_ ?_ _) | (simp only [World.size_alloc]; omega) | (simp <;> omega))) (square_is 2 4 0 0 _ (by omega) rfl (o := [(2, 2), (4, 2), (4, 4), (2, 4)]) (by decide))).mono ?_); rintro e w' ⟨z3, ⟨S3, c3, rfl, h3⟩, hz3, rfl⟩; skip)
  replace HU := Lib.hid (HU.out.below hz3)
  replace H2 := Lib.hid (H2.out.below hz3)
  have H3 := Lib.hid h3
  clear h3 hz3
  go_wp2_with fail
  have hp3 : RdPols (z3.1.alloc (.cells #[.slice S2 4 c2, .slice S3 4 c3] 42)) (.slice (some ⟨z3.1.heap.size, 0, none⟩) 2 2) awkN :=
    pols_two (rd_lit z3.1 encPol_len 42 [((S2, 4, c2) : PolH), (S3, 4, c3)] rfl (by simp [maxLen]) rfl rfl) (H2.out.below ((Below.refl _ _).alloc (Nat.le_refl _) _)) (H3.out.below ((Below.refl _ _).alloc (Nat.le_refl _) _))
  (go_at_call 25; (with_reducible refine (Kin.callK (W := w) (by repeat (first | with_reducible (first | exact blA | exact blB | refine blC _ ?_ | refine blD ?_ ?_ _ | refine blE ?_ | refine blF _ ?_ | refine blG ?_ _ | refine blH ?_ | refine blI ?_ ?_ _) | (simp only [World.size_alloc]; omega) | (simp <;> omega))) (nest_is _ awkN _ hp3 (by decide) (by decide) awk_NE awk_NL)).mono ?_); rintro e w' ⟨z4, ⟨u4, rfl, h4⟩, hz4, rfl⟩; skip)
  replace HU := Lib.hid ((HU.out.below ((Below.refl _ _).alloc (Nat.le_refl _) _)).below hz4)
  have H4 := Lib.hid h4
  clear h4 hz4 H2 H3 hp3
  go_wp2_with fail
  have hi4 : Rd 1 encI (z4.1.alloc (.cells #[.int .i64 0, .int .i64 1] 3)) (.slice (some ⟨z4.1.heap.size, 0, none⟩) 2 2) [0, 1] := rd_lit z4.1 encI_len 3 [0, 1] rfl (by simp [maxLen]) rfl rfl
  have h44 := H4.out.below (W' := z4.1.alloc (.cells #[.int .i64 0, .int .i64 1] 3)) ((Below.refl _ _).alloc (Nat.le_refl _) _)
  (go_at_call 27; (with_reducible refine (Kin.callK (W := w) (by repeat (first | with_reducible (first | exact blA | exact blB | refine blC _ ?_ | refine blD ?_ ?_ _ | refine blE ?_ | refine blF _ ?_ | refine blG ?_ _ | refine blH ?_ | refine blI ?_ ?_ _) | (simp only [World.size_alloc]; omega) | (simp <;> omega))) (ints_true _ _ [0, 1] _ h44 hi4 (by decide))).mono ?_); rintro e w' ⟨z5, rfl, hz5, rfl⟩; skip)
  replace HU := Lib.hid ((HU.out.below ((Below.refl _ _).alloc (Nat.le_refl _) _)).below hz5)
  clear hz5 h44 hi4
  go_wp2_with fail
  have hq0 : Rd 2 encPt (z5.1.alloc (.cells #[.int .i64 0, .int .i64 0, .int .i64 1, .int .i64 0, .int .i64 1, .int .i64 1] 36)) (.slice (some ⟨z5.1.heap.size, 0, none⟩) 3 3) [(0, 0), (1, 0), (1, 1)] := rd_lit z5.1 encPt_len 36 [(0, 0), (1, 0), (1, 1)] rfl (by simp [maxLen]) rfl rfl
  have hq1 := rdPols_one _ hq0
  rw [World.size_alloc] at hq1
  have hu5 : RdPols ((z5.1.alloc (.cells #[.int .i64 0, .int .i64 0, .int .i64 1, .int .i64 0, .int .i64 1, .int .i64 1] 36)).alloc (.cells #[.slice (some ⟨z5.1.heap.size, 0, none⟩) 3 3] 42)) u [[(0, 0), (1, 0), (1, 1)]] := HU.out.below (((Below.refl _ _).alloc (Nat.le_refl _) _).alloc (by simp only [World.size_alloc]; omega) _)
  (go_at_call 16; (with_reducible refine (Kin.callK (W := w) (by repeat (first | with_reducible (first | exact blA | exact blB | refine blC _ ?_ | refine blD ?_ ?_ _ | refine blE ?_ | refine blF _ ?_ | refine blG ?_ _ | refine blH ?_ | refine blI ?_ ?_ _) | (simp only [World.size_alloc]; omega) | (simp <;> omega))) (samePols_true _ _ [[(0, 0), (1, 0), (1, 1)]] _ hu5 hq1 (by decide) (by decide))).mono ?_); rintro e w' ⟨z6, rfl, hz6, rfl⟩; skip)
  clear hz6 hq0 hq1 hu5
  go_wp2_with fail
  go_ret
  exact ⟨rfl, z6.2⟩
end Go.Proofs.Yteadnlodccnfcaa

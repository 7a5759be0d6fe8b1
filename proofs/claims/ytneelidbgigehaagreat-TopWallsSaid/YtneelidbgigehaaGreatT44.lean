/- Lemmas: HatR. -/
import Derived.RangeFuncNested
import Derived.RangeFuncBound
import Derived.RangeFuncCalls
import Derived.RangeFuncLeaves
import Derived.Test.YtneelidbgigehaaGreatT43
import Derived.Test.YtneelidbgigehaaGreatT26
import Derived.Test.YtneelidbgigehaaGreatT12
/- A run of cells put behind a path: walked. -/
namespace Go.Proofs.YtneelidbgigehaaGreat
set_option linter.unusedSimpArgs false
set_option linter.unusedVariables false
set_option maxRecDepth 100000
open Go Go.RowKit Trk
attribute [local go_sem] Kin.cell Kin.frozen Kin.lt0 Kin.lt1 Kin.lt2 Kin.lt3 run_mkf
/-- what a step of the filling leaves: all variables but paths, tracks and cells -/
structure KeptP (w w' : World) : Prop where
  blk : ∀ (g : Nat) (t : TypeId) (cs : Array Value), Blk w g t cs → t ≠ 110 → t ≠ 72 → t ≠ 47 → Blk w' g t cs
  oth : KeepsOthers w w'
theorem KeptP.refl (w : World) : KeptP w w := ⟨fun _ _ _ h _ _ _ => h, KeepsOthers.refl w⟩
theorem KeptP.trans {a b c : World} (h : KeptP a b) (k : KeptP b c) : KeptP a c := ⟨fun g t cs hb h1 h2 h3 => k.blk g t cs (h.blk g t cs hb h1 h2 h3) h1 h2 h3, h.oth.trans k.oth⟩
theorem KeptP.below {w w' : World} (h : Below w.heap.size w w') : KeptP w w' := ⟨fun g t cs hb _ _ _ => hb.below h, KeepsOthers.of_grownBy (row := none) (below_grownBy h) (fun j o e => by cases e)⟩
theorem KeptP.row {w w' : World} {base size n : Nat} {e : TypeId} {v : Value} {xs : List Value} (h : w.ownsRow base e size v n xs) (he : e = 72 ∨ e = 47) (hg : w.grownBy w' v.ownBlock) : KeptP w w' :=
  ⟨fun g t cs hb h1 h2 h3 => hb.grown hg fun e' => own_ne h hb (by rcases he with rfl | rfl <;> exact fun e => by first | exact h2 e.symm | exact h3 e.symm) e'.symm, KeepsOthers.of_grownBy hg fun j o e' ho => by
    rcases h.2 with ⟨rfl, _⟩ | ⟨g, cap, cur, rfl, _, hh, _⟩
    · cases e'
    · have : g = j := by simpa [Value.ownBlock] using e'
      subst this
      rw [hh] at ho
      injection ho with ho
      rw [← ho]; rfl⟩
theorem KeptP.set {w : World} {g : Nat} {e : TypeId} {cs : Array Value} (h : Blk w g e cs) (he : e = 110 ∨ e = 72 ∨ e = 47) (i : Nat) (u : Value) : KeptP w (w.setCell ⟨g, i, none⟩ u) :=
  ⟨fun g' t cs' hb h1 h2 h3 => hb.far (p := ⟨g, i, none⟩) (fun e' => by
    have e' : g' = g := e'
    subst e'
    have := hb.symm.trans h
    injection this with this
    injection this with _ e2
    subst e2
    rcases he with h4 | h4 | h4
    · exact h1 h4
    · exact h2 h4
    · exact h3 h4) u, KeepsOthers.setCell _ _ _⟩
/-- a path of one track with the cells E -/
def PthN (base : Nat) (W : World) (gp : Nat) (E : List Cl) : Prop :=
  ∃ g cap h, Blk W gp 110 #[.slice (some ⟨g, 0, none⟩) 1 cap] ∧ OwnTL base base W (.slice (some ⟨g, 0, none⟩) 1 cap) [] h [] ((3, false), E)
theorem PthN.below {base gp : Nat} {W W' : World} {E : List Cl} (h : PthN base W gp E) (hb : Below W.heap.size W W') : PthN base W' gp E := by
  obtain ⟨g, cap, h0, h1, h2⟩ := h
  exact ⟨g, cap, h0, h1.below hb, h2.below hb⟩
set_option maxHeartbeats 4000000 in
theorem runF_any (base gp : Nat) (A : Option Addr) (n c : Nat) (L : List Cl) (w : World) (hp : Blk w gp 110 #[.slice none 0 0]) (hl : w.ownsRow base 47 2 (.slice A n c) n (L.flatMap encPt)) (hbase : base ≤ w.heap.size) (hgp : base ≤ gp) :
    Calls Tryz.prog 63 #[.pointer (some ⟨gp, 0, none⟩), .slice A n c] w fun e w' => e = .returned (.tuple #[]) ∧ PthN base w' gp L ∧ KeptP w w' ∧ Below base w w' := by
  have hn : n = L.length := own_len encPt_len (by decide) hl
  subst hn
  have HP := Lib.hid hp
  have HL := Lib.hid hl
  obtain ⟨n, hn⟩ : ∃ n, L.length = n := ⟨_, rfl⟩
  have HN := Lib.hid hn
  rw [hn] at HL ⊢
  have p_0 : w.cell? ⟨gp, 0, none⟩ = some (.slice none 0 0) := hp.cell 0
  have p_f := hp.frozen 0
  have p_l := hp.lt
  clear hp hl hn
  have hnil : ∀ W : World, W.ownsRow base 72 3 (.slice none 0 0) ([] : List TrH).length (([] : List TrH).flatMap encTr) := fun W => World.ownsRow_nil _ _ _ _
  go_enter Tryz.func63, Tryz.ntmps63
  go_wp2_with (at_builtin; refine Shut.out ?_)
  unfold Shut
  refine wpList_app _ rfl _ _ 110 rfl encTr_len (by decide) oneTr (base) 72 (.agg #[.int .i64 0, .bool false, .slice none 0 0]) 40 infoTr rfl Tryz.underlying110 _ _ _ _ rfl (hnil _) _ _ _ rfl (rd_one _ encTr_len _ (((3, false), (A, n, c)) : TrH) _ rfl) ?c1 (by decide) ?c2 ?_
  case c1 => (first | (simp only [List.length_append, List.length_cons, List.length_nil]; omega) | omega | (simp; omega))
  case c2 => exact lEw
  intro v1 w1 hown1 hg1 hbel1 hat1
  obtain ⟨W0, hW0⟩ : ∃ W0, w.alloc (.cells #[.int .i64 3, .bool false, .slice A n c] 72) = W0 := ⟨_, rfl⟩
  have hb0 : Below w.heap.size w W0 := hW0 ▸ (Below.refl _ _).alloc (Nat.le_refl _) _
  rw [hW0] at hg1 hbel1 hat1
  have hg1' : W0.grownBy w1 none := hg1
  obtain ⟨g, cap, rfl, hgb, hgl⟩ := hown1.form (by simp)
  have hb1 : Below W0.heap.size W0 w1 := (Below.refl _ _).grown hg1' (Nat.le_refl _) (fun k e => by cases e)
  have hb2 : Below w.heap.size w w1 := hb0.trans (hb1.mono hb0.size)
  have B1 := HP.out.below hb2
  have p1_0 : w1.cell? ⟨gp, 0, none⟩ = some (.slice none 0 0) := B1.cell 0
  have p1_f := B1.frozen 0
  have p1_l := B1.lt
  have HB1 := Lib.hid B1
  have HB2 := Lib.hid hb2
  have HO1 := Lib.hid hown1
  have HG0 := Lib.hid (show g = W0.heap.size from by
    rcases hat1 with h | h
    · cases h
    · simpa [Value.ownBlock] using h)
  have HS0 := Lib.hid hb0.size
  clear hW0 hg1 hg1' hbel1 hat1 hown1 hb0 hb1 hb2 B1 p_0 p_f p_l hnil
  go_wp2_with fail
  go_end0
  have n1 := own_ne HO1.out HB1.out (by decide)
  have n2 := own_ne HL.out HP.out (by decide)
  have g1 := grownBy_set (w := w1) (p := ⟨gp, 0, none⟩) (.slice (some ⟨g, 0, none⟩) 1 cap)
  refine ⟨rfl, ⟨g, cap, ((3, false), (A, n, c)), HB1.out.set_ 0 _, ⟨HO1.out.kept g1 (.inr n1), ⟨rfl, fun i h x hh => by simp at hh⟩, fun i h x hh => by simp at hh, rfl, ?_, Nat.le_refl _, ?_⟩⟩, (KeptP.below HB2.out).trans (KeptP.set HB1.out (.inl rfl) 0 _), ?_⟩
  · show World.ownsRow _ base 47 2 (.slice A n c) L.length (L.flatMap encPt)
    rw [HN.out]
    exact (own_below HL.out HB2.out).kept g1 (.inr n2)
  · show base ≤ _
    exact Nat.le_trans (Nat.le_trans hbase HB2.out.size) g1.size
  · exact (HB2.out.mono hbase).setCell (p := ⟨gp, 0, none⟩) hgp _
set_option maxHeartbeats 8000000 in
theorem runM_any (base gp : Nat) (A : Option Addr) (n c : Nat) (E L : List Cl) (a b : Cl) (w : World) (hp : PthN base w gp E) (hl : Rd 2 encPt w (.slice A n c) L) (hE : E.getLast? = some a) (hL : L.head? = some b) (ha : okc a = true) (hb : okc b = true) (hab : nb a b = true)
    (hlen : E.length + L.length ≤ 65536) (hbase : base ≤ w.heap.size) (hgp : base ≤ gp) :
    Calls Tryz.prog 63 #[.pointer (some ⟨gp, 0, none⟩), .slice A n c] w fun e w' => e = .returned (.tuple #[]) ∧ PthN base w' gp (E ++ L) ∧ KeptP w w' ∧ Below base w w' := by
  obtain ⟨g, cap, h, hB, hO⟩ := hp
  obtain ⟨⟨r, cl⟩, AE, nE, cE⟩ := h
  have htg : (r, cl) = ((3 : Int), false) := hO.tg
  injection htg with h1 h2
  subst h1 h2
  have hin : w.ownsRow base 47 2 (.slice AE nE cE) E.length (E.flatMap encPt) := hO.inner
  have hrow : w.ownsRow base 72 3 (.slice (some ⟨g, 0, none⟩) 1 cap) 1 ((([] : List TrH) ++ [((3, false), (AE, nE, cE))]).flatMap encTr) := hO.own
  have hrd := Rd.own' encPt_len (by decide) hin
  obtain ⟨rfl, _⟩ := hrd.flat encPt_len (by decide)
  obtain ⟨rfl, _⟩ := hl.flat encPt_len (by decide)
  have hE0 : E.length ≠ 0 := fun e => by rw [List.eq_nil_of_length_eq_zero e] at hE; cases hE
  have hL0 : L.length ≠ 0 := fun e => by rw [List.eq_nil_of_length_eq_zero e] at hL; cases hL
  have hE1 : E[E.length - 1]? = some a := by rw [← List.getLast?_eq_getElem?]; exact hE
  have hL1 : L[0]? = some b := by rw [← List.head?_eq_getElem?]; exact hL
  obtain ⟨bE, oE, rfl, hbE, hcE⟩ := hrd.op (E.length - 1) a hE1
  obtain ⟨bL, oL, rfl, hbL, hcL⟩ := hl.op 0 b hL1
  have e_0 : w.cell? ⟨bE, oE + (E.length - 1) * 2, none⟩ = some (.int .i64 a.1) := hcE _ a hE1 0 _ rfl
  have e_1 : w.cell? ⟨bE, oE + (E.length - 1) * 2 + 1, none⟩ = some (.int .i64 a.2) := hcE _ a hE1 1 _ rfl
  have l_0 : w.cell? ⟨bL, oL, none⟩ = some (.int .i64 b.1) := by simpa using hcL 0 b hL1 0 _ rfl
  have l_1 : w.cell? ⟨bL, oL + 1, none⟩ = some (.int .i64 b.2) := by simpa using hcL 0 b hL1 1 _ rfl
  have p_0 : w.cell? ⟨gp, 0, none⟩ = some (.slice (some ⟨g, 0, none⟩) 1 cap) := hB.cell 0
  have p_l := hB.lt
  have t_2 : w.cell? ⟨g, 2, none⟩ = some (.slice (some ⟨bE, oE, none⟩) E.length cE) := by
    exact (hrow.cellAt 2 (by first | decide | (rw [hrow.1]; decide))).trans rfl
  have t_l : g < w.heap.size := (hrow.lt g rfl).2
  have hg1 : base ≤ g := (hrow.lt g rfl).1
  obtain ⟨q, hq⟩ : ∃ q, E.length = q := ⟨_, rfl⟩
  obtain ⟨m, hm⟩ : ∃ m, L.length = m := ⟨_, rfl⟩
  obtain ⟨k, hk⟩ : ∃ k, q = k + 1 := ⟨q - 1, by omega⟩
  have HQ := Lib.hid hq
  have HM := Lib.hid hm
  have HB := Lib.hid hB
  have HO := Lib.hid hO
  have HIN := Lib.hid hin
  have HL := Lib.hid hl
  have HROW := Lib.hid hrow
  rw [hq] at e_0 e_1 t_2 HIN HO HROW hlen
  rw [hm] at HL hlen ⊢
  have ek : q - 1 = k := by omega
  rw [ek] at e_0 e_1
  have ei : IntKind.i64.wrap ((q : Int) - 1) = (k : Int) := by rw [IntWalk.i64_in _ (by omega)]; omega
  have hkq : k < q := by omega
  have hm0 : 0 < m := by omega
  have hle : (q : Int) + (m : Int) ≤ 65536 := by omega
  have ew : IntKind.i64.wrap ((q : Int) + (m : Int)) = (q : Int) + (m : Int) := IntWalk.i64_in _ (by omega)
  have HKQ := Lib.hid hk
  have mixed : Tryz.prog.follows .mixedOrders = true := by kernel_rfl
  clear hB hO hin hrow hrd hl hE hL hE0 hL0 hE1 hL1 hcE hcL hq hm hk ek
  go_enter Tryz.func63, Tryz.ntmps63
  go_wp2_with fail
  refine wp_region_held_drew (S := fun w' => Below w.heap.size w w') (by kernel_rfl) ((Below.refl _ _).drew) (fun hHeld => ?_)
  try simp only [List.size_toArray, List.length_cons, List.length_nil, Nat.zero_add, Nat.reduceAdd, List.replicate, Array.replicate]
  obtain ⟨W1, hW1⟩ : ∃ W1, w.drew = W1 := ⟨_, rfl⟩
  rw [hW1] at hHeld ⊢
  clear hW1
  refine wpAnyH_take (i := 0) (v := ?_) rfl (by kernel_rfl) (by kernel_rfl) (by kernel_rfl) (fun _ _ _ h => h) (Or.inl ⟨by kernel_rfl, ?_⟩) (by assumption) ?_
  rotate_left
  · (intro w' hSw; have s0 := (hSw.cell (p := ⟨g, 2, none⟩) t_l).trans t_2; have s1 := (hSw.cell (p := ⟨bE, oE + k * 2, none⟩) hbE).trans e_0; have s2 := (hSw.cell (p := ⟨bE, oE + k * 2 + 1, none⟩) hbE).trans e_1; have s3 := (hSw.cell (p := ⟨bL, oL, none⟩) hbL).trans l_0; have s4 := (hSw.cell (p := ⟨bL, oL + 1, none⟩) hbL).trans l_1; go_simp; try with_reducible rfl)
  try simp only [List.getElem_toArray, List.getElem_cons_succ, List.getElem_cons_zero, Act.put, List.setIfInBounds_toArray, List.set_cons_zero, List.set_cons_succ]
  refine wpAnyH_take (i := 1) (v := ?_) rfl (by kernel_rfl) (by kernel_rfl) (by kernel_rfl) (fun _ _ _ h => h) (Or.inl ⟨by kernel_rfl, ?_⟩) (by assumption) ?_
  rotate_left
  · (intro w' hSw; have s0 := (hSw.cell (p := ⟨g, 2, none⟩) t_l).trans t_2; have s1 := (hSw.cell (p := ⟨bE, oE + k * 2, none⟩) hbE).trans e_0; have s2 := (hSw.cell (p := ⟨bE, oE + k * 2 + 1, none⟩) hbE).trans e_1; have s3 := (hSw.cell (p := ⟨bL, oL, none⟩) hbL).trans l_0; have s4 := (hSw.cell (p := ⟨bL, oL + 1, none⟩) hbL).trans l_1; go_simp; try with_reducible rfl)
  try simp only [List.getElem_toArray, List.getElem_cons_succ, List.getElem_cons_zero, Act.put, List.setIfInBounds_toArray, List.set_cons_zero, List.set_cons_succ]
  refine wpAnyH_take (i := 2) (v := ?_) rfl (by kernel_rfl) (by kernel_rfl) (by kernel_rfl) (fun _ _ _ h => h) (Or.inl ⟨by kernel_rfl, ?_⟩) (by assumption) ?_
  rotate_left
  · (intro w' hSw; have s0 := (hSw.cell (p := ⟨g, 2, none⟩) t_l).trans t_2; have s1 := (hSw.cell (p := ⟨bE, oE + k * 2, none⟩) hbE).trans e_0; have s2 := (hSw.cell (p := ⟨bE, oE + k * 2 + 1, none⟩) hbE).trans e_1; have s3 := (hSw.cell (p := ⟨bL, oL, none⟩) hbL).trans l_0; have s4 := (hSw.cell (p := ⟨bL, oL + 1, none⟩) hbL).trans l_1; go_simp; try with_reducible rfl)
  try simp only [List.getElem_toArray, List.getElem_cons_succ, List.getElem_cons_zero, Act.put, List.setIfInBounds_toArray, List.set_cons_zero, List.set_cons_succ]
  refine wpAnyH_take (i := 3) (v := ?_) rfl (by kernel_rfl) (by kernel_rfl) (by kernel_rfl) (fun _ _ _ h => h) (Or.inl ⟨by kernel_rfl, ?_⟩) (by assumption) ?_
  rotate_left
  · (intro w' hSw; have s0 := (hSw.cell (p := ⟨g, 2, none⟩) t_l).trans t_2; have s1 := (hSw.cell (p := ⟨bE, oE + k * 2, none⟩) hbE).trans e_0; have s2 := (hSw.cell (p := ⟨bE, oE + k * 2 + 1, none⟩) hbE).trans e_1; have s3 := (hSw.cell (p := ⟨bL, oL, none⟩) hbL).trans l_0; have s4 := (hSw.cell (p := ⟨bL, oL + 1, none⟩) hbL).trans l_1; go_simp; try with_reducible rfl)
  try simp only [List.getElem_toArray, List.getElem_cons_succ, List.getElem_cons_zero, Act.put, List.setIfInBounds_toArray, List.set_cons_zero, List.set_cons_succ]
  refine wpAnyH_take (i := 4) (v := ?_) rfl (by kernel_rfl) (by kernel_rfl) (by kernel_rfl) (fun _ _ _ h => h) (Or.inl ⟨by kernel_rfl, ?_⟩) (by assumption) ?_
  rotate_left
  · (intro w' hSw; have s0 := (hSw.cell (p := ⟨g, 2, none⟩) t_l).trans t_2; have s1 := (hSw.cell (p := ⟨bE, oE + k * 2, none⟩) hbE).trans e_0; have s2 := (hSw.cell (p := ⟨bE, oE + k * 2 + 1, none⟩) hbE).trans e_1; have s3 := (hSw.cell (p := ⟨bL, oL, none⟩) hbL).trans l_0; have s4 := (hSw.cell (p := ⟨bL, oL + 1, none⟩) hbL).trans l_1; go_simp; try with_reducible rfl)
  try simp only [List.getElem_toArray, List.getElem_cons_succ, List.getElem_cons_zero, Act.put, List.setIfInBounds_toArray, List.set_cons_zero, List.set_cons_succ]
  refine wpAnyH_take (i := 5) (v := ?_) rfl (by kernel_rfl) (by kernel_rfl) (by kernel_rfl) (fun _ _ _ h => h) (Or.inl ⟨by kernel_rfl, ?_⟩) (by assumption) ?_
  rotate_left
  · (intro w' hSw; have s0 := (hSw.cell (p := ⟨g, 2, none⟩) t_l).trans t_2; have s1 := (hSw.cell (p := ⟨bE, oE + k * 2, none⟩) hbE).trans e_0; have s2 := (hSw.cell (p := ⟨bE, oE + k * 2 + 1, none⟩) hbE).trans e_1; have s3 := (hSw.cell (p := ⟨bL, oL, none⟩) hbL).trans l_0; have s4 := (hSw.cell (p := ⟨bL, oL + 1, none⟩) hbL).trans l_1; go_simp; try with_reducible rfl)
  try simp only [List.getElem_toArray, List.getElem_cons_succ, List.getElem_cons_zero, Act.put, List.setIfInBounds_toArray, List.set_cons_zero, List.set_cons_succ]
  refine wpAnyH_take (i := 6) (v := ?_) rfl (by kernel_rfl) (by kernel_rfl) (by kernel_rfl) (fun _ _ _ h => h) (Or.inl ⟨by kernel_rfl, ?_⟩) (by assumption) ?_
  rotate_left
  · (intro w' hSw; have s0 := (hSw.cell (p := ⟨g, 2, none⟩) t_l).trans t_2; have s1 := (hSw.cell (p := ⟨bE, oE + k * 2, none⟩) hbE).trans e_0; have s2 := (hSw.cell (p := ⟨bE, oE + k * 2 + 1, none⟩) hbE).trans e_1; have s3 := (hSw.cell (p := ⟨bL, oL, none⟩) hbL).trans l_0; have s4 := (hSw.cell (p := ⟨bL, oL + 1, none⟩) hbL).trans l_1; go_simp; try with_reducible rfl)
  try simp only [List.getElem_toArray, List.getElem_cons_succ, List.getElem_cons_zero, Act.put, List.setIfInBounds_toArray, List.set_cons_zero, List.set_cons_succ]
  refine wpAnyH_take (i := 7) (v := ?_) rfl (by kernel_rfl) (by kernel_rfl) (by kernel_rfl) (fun _ _ _ h => h) (Or.inl ⟨by kernel_rfl, ?_⟩) (by assumption) ?_
  rotate_left
  · (intro w' hSw; have s0 := (hSw.cell (p := ⟨g, 2, none⟩) t_l).trans t_2; have s1 := (hSw.cell (p := ⟨bE, oE + k * 2, none⟩) hbE).trans e_0; have s2 := (hSw.cell (p := ⟨bE, oE + k * 2 + 1, none⟩) hbE).trans e_1; have s3 := (hSw.cell (p := ⟨bL, oL, none⟩) hbL).trans l_0; have s4 := (hSw.cell (p := ⟨bL, oL + 1, none⟩) hbL).trans l_1; go_simp; try with_reducible rfl)
  try simp only [List.getElem_toArray, List.getElem_cons_succ, List.getElem_cons_zero, Act.put, List.setIfInBounds_toArray, List.set_cons_zero, List.set_cons_succ]
  refine wpAnyH_take (i := 8) (v := ?_) rfl (by kernel_rfl) (by kernel_rfl) (by kernel_rfl) (fun _ _ _ h => h) (Or.inl ⟨by kernel_rfl, ?_⟩) (by assumption) ?_
  rotate_left
  · (intro w' hSw; have s0 := (hSw.cell (p := ⟨g, 2, none⟩) t_l).trans t_2; have s1 := (hSw.cell (p := ⟨bE, oE + k * 2, none⟩) hbE).trans e_0; have s2 := (hSw.cell (p := ⟨bE, oE + k * 2 + 1, none⟩) hbE).trans e_1; have s3 := (hSw.cell (p := ⟨bL, oL, none⟩) hbL).trans l_0; have s4 := (hSw.cell (p := ⟨bL, oL + 1, none⟩) hbL).trans l_1; go_simp; try with_reducible rfl)
  try simp only [List.getElem_toArray, List.getElem_cons_succ, List.getElem_cons_zero, Act.put, List.setIfInBounds_toArray, List.set_cons_zero, List.set_cons_succ]
  refine wpAnyH_take (i := 9) (v := ?_) rfl (by kernel_rfl) (by kernel_rfl) (by kernel_rfl) (fun _ _ _ h => h) (Or.inl ⟨by kernel_rfl, ?_⟩) (by assumption) ?_
  rotate_left
  · (intro w' hSw; have s0 := (hSw.cell (p := ⟨g, 2, none⟩) t_l).trans t_2; have s1 := (hSw.cell (p := ⟨bE, oE + k * 2, none⟩) hbE).trans e_0; have s2 := (hSw.cell (p := ⟨bE, oE + k * 2 + 1, none⟩) hbE).trans e_1; have s3 := (hSw.cell (p := ⟨bL, oL, none⟩) hbL).trans l_0; have s4 := (hSw.cell (p := ⟨bL, oL + 1, none⟩) hbL).trans l_1; go_simp; try with_reducible rfl)
  try simp only [List.getElem_toArray, List.getElem_cons_succ, List.getElem_cons_zero, Act.put, List.setIfInBounds_toArray, List.set_cons_zero, List.set_cons_succ]
  refine wpAnyH_take (i := 10) (v := ?_) rfl (by kernel_rfl) (by kernel_rfl) (by kernel_rfl) (fun _ _ _ h => h) (Or.inl ⟨by kernel_rfl, ?_⟩) (by assumption) ?_
  rotate_left
  · (intro w' hSw; have s0 := (hSw.cell (p := ⟨g, 2, none⟩) t_l).trans t_2; have s1 := (hSw.cell (p := ⟨bE, oE + k * 2, none⟩) hbE).trans e_0; have s2 := (hSw.cell (p := ⟨bE, oE + k * 2 + 1, none⟩) hbE).trans e_1; have s3 := (hSw.cell (p := ⟨bL, oL, none⟩) hbL).trans l_0; have s4 := (hSw.cell (p := ⟨bL, oL + 1, none⟩) hbL).trans l_1; go_simp; try with_reducible rfl)
  try simp only [List.getElem_toArray, List.getElem_cons_succ, List.getElem_cons_zero, Act.put, List.setIfInBounds_toArray, List.set_cons_zero, List.set_cons_succ]
  refine wpAnyH_take (i := 11) (v := ?_) rfl (by kernel_rfl) (by kernel_rfl) (by kernel_rfl) (fun _ _ _ h => h) (Or.inl ⟨by kernel_rfl, ?_⟩) (by assumption) ?_
  rotate_left
  · (intro w' hSw; have s0 := (hSw.cell (p := ⟨g, 2, none⟩) t_l).trans t_2; have s1 := (hSw.cell (p := ⟨bE, oE + k * 2, none⟩) hbE).trans e_0; have s2 := (hSw.cell (p := ⟨bE, oE + k * 2 + 1, none⟩) hbE).trans e_1; have s3 := (hSw.cell (p := ⟨bL, oL, none⟩) hbL).trans l_0; have s4 := (hSw.cell (p := ⟨bL, oL + 1, none⟩) hbL).trans l_1; go_simp; try with_reducible rfl)
  try simp only [List.getElem_toArray, List.getElem_cons_succ, List.getElem_cons_zero, Act.put, List.setIfInBounds_toArray, List.set_cons_zero, List.set_cons_succ]
  refine wpAnyH_take (i := 12) (v := ?_) rfl (by kernel_rfl) (by kernel_rfl) (by kernel_rfl) (fun _ _ _ h => h) (Or.inl ⟨by kernel_rfl, ?_⟩) (by assumption) ?_
  rotate_left
  · (intro w' hSw; have s0 := (hSw.cell (p := ⟨g, 2, none⟩) t_l).trans t_2; have s1 := (hSw.cell (p := ⟨bE, oE + k * 2, none⟩) hbE).trans e_0; have s2 := (hSw.cell (p := ⟨bE, oE + k * 2 + 1, none⟩) hbE).trans e_1; have s3 := (hSw.cell (p := ⟨bL, oL, none⟩) hbL).trans l_0; have s4 := (hSw.cell (p := ⟨bL, oL + 1, none⟩) hbL).trans l_1; go_simp; try with_reducible rfl)
  try simp only [List.getElem_toArray, List.getElem_cons_succ, List.getElem_cons_zero, Act.put, List.setIfInBounds_toArray, List.set_cons_zero, List.set_cons_succ]
  refine wpAnyH_take (i := 13) (v := ?_) rfl (by kernel_rfl) (by kernel_rfl) (by kernel_rfl) (fun _ _ _ h => h) (Or.inl ⟨by kernel_rfl, ?_⟩) (by assumption) ?_
  rotate_left
  · (intro w' hSw; have s0 := (hSw.cell (p := ⟨g, 2, none⟩) t_l).trans t_2; have s1 := (hSw.cell (p := ⟨bE, oE + k * 2, none⟩) hbE).trans e_0; have s2 := (hSw.cell (p := ⟨bE, oE + k * 2 + 1, none⟩) hbE).trans e_1; have s3 := (hSw.cell (p := ⟨bL, oL, none⟩) hbL).trans l_0; have s4 := (hSw.cell (p := ⟨bL, oL + 1, none⟩) hbL).trans l_1; go_simp; try with_reducible rfl)
  try simp only [List.getElem_toArray, List.getElem_cons_succ, List.getElem_cons_zero, Act.put, List.setIfInBounds_toArray, List.set_cons_zero, List.set_cons_succ]
  refine wpAnyH_take (i := 14) (v := ?_) rfl (by kernel_rfl) (by kernel_rfl) (by kernel_rfl) (fun _ _ _ h => h) (Or.inl ⟨by kernel_rfl, ?_⟩) (by assumption) ?_
  rotate_left
  · (intro w' hSw; have s0 := (hSw.cell (p := ⟨g, 2, none⟩) t_l).trans t_2; have s1 := (hSw.cell (p := ⟨bE, oE + k * 2, none⟩) hbE).trans e_0; have s2 := (hSw.cell (p := ⟨bE, oE + k * 2 + 1, none⟩) hbE).trans e_1; have s3 := (hSw.cell (p := ⟨bL, oL, none⟩) hbL).trans l_0; have s4 := (hSw.cell (p := ⟨bL, oL + 1, none⟩) hbL).trans l_1; go_simp; try with_reducible rfl)
  try simp only [List.getElem_toArray, List.getElem_cons_succ, List.getElem_cons_zero, Act.put, List.setIfInBounds_toArray, List.set_cons_zero, List.set_cons_succ]
  refine wpAnyH_ready (rs := [15]) (by kernel_rfl) (by simp) (AllReadyH.cons rfl (fun K hK => ?_) AllReadyH.nil)
  go_simp
  (go_at_call 106; (with_reducible refine (Kin.callK (W := W1) gRw (nearH_is a b _ ha hb hab)).mono ?_); rintro e w' ⟨z2, rfl, hz2, rfl⟩; skip)
  simp only []
  have h2 : Below w.heap.size w z2.1 := hHeld.trans (z2.2.mono hHeld.size)
  refine hK.out _ _ (h2) (fun hHeld2 => ?_)
  clear hK hHeld
  have hHeld := hHeld2
  clear hHeld2 K
  try simp only [List.getElem_toArray, List.getElem_cons_succ, List.getElem_cons_zero, Act.put, List.setIfInBounds_toArray, List.set_cons_zero, List.set_cons_succ]
  refine wpAnyH_take (i := 16) (v := ?_) rfl (by kernel_rfl) (by kernel_rfl) (by kernel_rfl) (fun _ _ _ h => h) (Or.inl ⟨by kernel_rfl, ?_⟩) (by assumption) ?_
  rotate_left
  · (intro w' hSw; have s0 := (hSw.cell (p := ⟨g, 2, none⟩) t_l).trans t_2; have s1 := (hSw.cell (p := ⟨bE, oE + k * 2, none⟩) hbE).trans e_0; have s2 := (hSw.cell (p := ⟨bE, oE + k * 2 + 1, none⟩) hbE).trans e_1; have s3 := (hSw.cell (p := ⟨bL, oL, none⟩) hbL).trans l_0; have s4 := (hSw.cell (p := ⟨bL, oL + 1, none⟩) hbL).trans l_1; go_simp; try with_reducible rfl)
  try simp only [List.getElem_toArray, List.getElem_cons_succ, List.getElem_cons_zero, Act.put, List.setIfInBounds_toArray, List.set_cons_zero, List.set_cons_succ]
  refine wpAnyH_take (i := 17) (v := ?_) rfl (by kernel_rfl) (by kernel_rfl) (by kernel_rfl) (fun _ _ _ h => h) (Or.inl ⟨by kernel_rfl, ?_⟩) (by assumption) ?_
  rotate_left
  · (intro w' hSw; have s0 := (hSw.cell (p := ⟨g, 2, none⟩) t_l).trans t_2; have s1 := (hSw.cell (p := ⟨bE, oE + k * 2, none⟩) hbE).trans e_0; have s2 := (hSw.cell (p := ⟨bE, oE + k * 2 + 1, none⟩) hbE).trans e_1; have s3 := (hSw.cell (p := ⟨bL, oL, none⟩) hbL).trans l_0; have s4 := (hSw.cell (p := ⟨bL, oL + 1, none⟩) hbL).trans l_1; go_simp; try with_reducible rfl)
  try simp only [List.getElem_toArray, List.getElem_cons_succ, List.getElem_cons_zero, Act.put, List.setIfInBounds_toArray, List.set_cons_zero, List.set_cons_succ]
  refine wpAnyH_take (i := 18) (v := ?_) rfl (by kernel_rfl) (by kernel_rfl) (by kernel_rfl) (fun _ _ _ h => h) (Or.inl ⟨by kernel_rfl, ?_⟩) (by assumption) ?_
  rotate_left
  · (intro w' hSw; have s0 := (hSw.cell (p := ⟨g, 2, none⟩) t_l).trans t_2; have s1 := (hSw.cell (p := ⟨bE, oE + k * 2, none⟩) hbE).trans e_0; have s2 := (hSw.cell (p := ⟨bE, oE + k * 2 + 1, none⟩) hbE).trans e_1; have s3 := (hSw.cell (p := ⟨bL, oL, none⟩) hbL).trans l_0; have s4 := (hSw.cell (p := ⟨bL, oL + 1, none⟩) hbL).trans l_1; go_simp; try with_reducible rfl)
  try simp only [List.getElem_toArray, List.getElem_cons_succ, List.getElem_cons_zero, Act.put, List.setIfInBounds_toArray, List.set_cons_zero, List.set_cons_succ]
  refine wpAnyH_take (i := 19) (v := ?_) rfl (by kernel_rfl) (by kernel_rfl) (by kernel_rfl) (fun _ _ _ h => h) (Or.inl ⟨by kernel_rfl, ?_⟩) (by assumption) ?_
  rotate_left
  · (intro w' hSw; have s0 := (hSw.cell (p := ⟨g, 2, none⟩) t_l).trans t_2; have s1 := (hSw.cell (p := ⟨bE, oE + k * 2, none⟩) hbE).trans e_0; have s2 := (hSw.cell (p := ⟨bE, oE + k * 2 + 1, none⟩) hbE).trans e_1; have s3 := (hSw.cell (p := ⟨bL, oL, none⟩) hbL).trans l_0; have s4 := (hSw.cell (p := ⟨bL, oL + 1, none⟩) hbL).trans l_1; go_simp; try with_reducible rfl)
  try simp only [List.getElem_toArray, List.getElem_cons_succ, List.getElem_cons_zero, Act.put, List.setIfInBounds_toArray, List.set_cons_zero, List.set_cons_succ]
  refine wpAnyH_take (i := 20) (v := ?_) rfl (by kernel_rfl) (by kernel_rfl) (by kernel_rfl) (fun _ _ _ h => h) (Or.inl ⟨by kernel_rfl, ?_⟩) (by assumption) ?_
  rotate_left
  · (intro w' hSw; have s0 := (hSw.cell (p := ⟨g, 2, none⟩) t_l).trans t_2; have s1 := (hSw.cell (p := ⟨bE, oE + k * 2, none⟩) hbE).trans e_0; have s2 := (hSw.cell (p := ⟨bE, oE + k * 2 + 1, none⟩) hbE).trans e_1; have s3 := (hSw.cell (p := ⟨bL, oL, none⟩) hbL).trans l_0; have s4 := (hSw.cell (p := ⟨bL, oL + 1, none⟩) hbL).trans l_1; go_simp; try with_reducible rfl)
  try simp only [List.getElem_toArray, List.getElem_cons_succ, List.getElem_cons_zero, Act.put, List.setIfInBounds_toArray, List.set_cons_zero, List.set_cons_succ]
  refine wpAnyH_take (i := 21) (v := ?_) rfl (by kernel_rfl) (by kernel_rfl) (by kernel_rfl) (fun _ _ _ h => h) (Or.inl ⟨by kernel_rfl, ?_⟩) (by assumption) ?_
  rotate_left
  · (intro w' hSw; have s0 := (hSw.cell (p := ⟨g, 2, none⟩) t_l).trans t_2; have s1 := (hSw.cell (p := ⟨bE, oE + k * 2, none⟩) hbE).trans e_0; have s2 := (hSw.cell (p := ⟨bE, oE + k * 2 + 1, none⟩) hbE).trans e_1; have s3 := (hSw.cell (p := ⟨bL, oL, none⟩) hbL).trans l_0; have s4 := (hSw.cell (p := ⟨bL, oL + 1, none⟩) hbL).trans l_1; go_simp; try with_reducible rfl)
  try simp only [List.getElem_toArray, List.getElem_cons_succ, List.getElem_cons_zero, Act.put, List.setIfInBounds_toArray, List.set_cons_zero, List.set_cons_succ]
  refine wpAnyH_take (i := 22) (v := ?_) rfl (by kernel_rfl) (by kernel_rfl) (by kernel_rfl) (fun _ _ _ h => h) (Or.inl ⟨by kernel_rfl, ?_⟩) (by assumption) ?_
  rotate_left
  · (intro w' hSw; have s0 := (hSw.cell (p := ⟨g, 2, none⟩) t_l).trans t_2; have s1 := (hSw.cell (p := ⟨bE, oE + k * 2, none⟩) hbE).trans e_0; have s2 := (hSw.cell (p := ⟨bE, oE + k * 2 + 1, none⟩) hbE).trans e_1; have s3 := (hSw.cell (p := ⟨bL, oL, none⟩) hbL).trans l_0; have s4 := (hSw.cell (p := ⟨bL, oL + 1, none⟩) hbL).trans l_1; go_simp; try with_reducible rfl)
  try simp only [List.getElem_toArray, List.getElem_cons_succ, List.getElem_cons_zero, Act.put, List.setIfInBounds_toArray, List.set_cons_zero, List.set_cons_succ]
  refine wpAnyH_take (i := 23) (v := ?_) rfl (by kernel_rfl) (by kernel_rfl) (by kernel_rfl) (fun _ _ _ h => h) (Or.inl ⟨by kernel_rfl, ?_⟩) (by assumption) ?_
  rotate_left
  · (intro w' hSw; have s0 := (hSw.cell (p := ⟨g, 2, none⟩) t_l).trans t_2; have s1 := (hSw.cell (p := ⟨bE, oE + k * 2, none⟩) hbE).trans e_0; have s2 := (hSw.cell (p := ⟨bE, oE + k * 2 + 1, none⟩) hbE).trans e_1; have s3 := (hSw.cell (p := ⟨bL, oL, none⟩) hbL).trans l_0; have s4 := (hSw.cell (p := ⟨bL, oL + 1, none⟩) hbL).trans l_1; go_simp; try with_reducible rfl)
  try simp only [List.getElem_toArray, List.getElem_cons_succ, List.getElem_cons_zero, Act.put, List.setIfInBounds_toArray, List.set_cons_zero, List.set_cons_succ]
  refine wpAnyH_take (i := 24) (v := ?_) rfl (by kernel_rfl) (by kernel_rfl) (by kernel_rfl) (fun _ _ _ h => h) (Or.inl ⟨by kernel_rfl, ?_⟩) (by assumption) ?_
  rotate_left
  · (intro w' hSw; have s0 := (hSw.cell (p := ⟨g, 2, none⟩) t_l).trans t_2; have s1 := (hSw.cell (p := ⟨bE, oE + k * 2, none⟩) hbE).trans e_0; have s2 := (hSw.cell (p := ⟨bE, oE + k * 2 + 1, none⟩) hbE).trans e_1; have s3 := (hSw.cell (p := ⟨bL, oL, none⟩) hbL).trans l_0; have s4 := (hSw.cell (p := ⟨bL, oL + 1, none⟩) hbL).trans l_1; go_simp; try with_reducible rfl)
  try simp only [List.getElem_toArray, List.getElem_cons_succ, List.getElem_cons_zero, Act.put, List.setIfInBounds_toArray, List.set_cons_zero, List.set_cons_succ]
  refine wpAnyH_take (i := 25) (v := ?_) rfl (by kernel_rfl) (by kernel_rfl) (by kernel_rfl) (fun _ _ _ h => h) (Or.inl ⟨by kernel_rfl, ?_⟩) (by assumption) ?_
  rotate_left
  · (intro w' hSw; have s0 := (hSw.cell (p := ⟨g, 2, none⟩) t_l).trans t_2; have s1 := (hSw.cell (p := ⟨bE, oE + k * 2, none⟩) hbE).trans e_0; have s2 := (hSw.cell (p := ⟨bE, oE + k * 2 + 1, none⟩) hbE).trans e_1; have s3 := (hSw.cell (p := ⟨bL, oL, none⟩) hbL).trans l_0; have s4 := (hSw.cell (p := ⟨bL, oL + 1, none⟩) hbL).trans l_1; go_simp; try with_reducible rfl)
  try simp only [List.getElem_toArray, List.getElem_cons_succ, List.getElem_cons_zero, Act.put, List.setIfInBounds_toArray, List.set_cons_zero, List.set_cons_succ]
  refine wpAnyH_take (i := 26) (v := ?_) rfl (by kernel_rfl) (by kernel_rfl) (by kernel_rfl) (fun _ _ _ h => h) (Or.inl ⟨by kernel_rfl, ?_⟩) (by assumption) ?_
  rotate_left
  · (intro w' hSw; have s0 := (hSw.cell (p := ⟨g, 2, none⟩) t_l).trans t_2; have s1 := (hSw.cell (p := ⟨bE, oE + k * 2, none⟩) hbE).trans e_0; have s2 := (hSw.cell (p := ⟨bE, oE + k * 2 + 1, none⟩) hbE).trans e_1; have s3 := (hSw.cell (p := ⟨bL, oL, none⟩) hbL).trans l_0; have s4 := (hSw.cell (p := ⟨bL, oL + 1, none⟩) hbL).trans l_1; go_simp; try with_reducible rfl)
  try simp only [List.getElem_toArray, List.getElem_cons_succ, List.getElem_cons_zero, Act.put, List.setIfInBounds_toArray, List.set_cons_zero, List.set_cons_succ]
  refine wpAnyH_done (by kernel_rfl) ?_ _
  obtain ⟨W2, hW2⟩ : ∃ W2, z2.1 = W2 := ⟨_, rfl⟩
  rw [hW2] at h2 ⊢
  have HW2 := Lib.hid h2
  have t2_2 : W2.cell? ⟨g, 2, none⟩ = some (.slice (some ⟨bE, oE, none⟩) q cE) := (h2.cell (p := ⟨g, 2, none⟩) t_l).trans t_2
  have t2_l : g < W2.heap.size := Nat.lt_of_lt_of_le t_l h2.size
  have HI2 := Lib.hid (own_below HIN.out h2)
  have HL2 := Lib.hid (HL.out.below h2)
  have HO2 := Lib.hid (HO.out.below h2)
  have HB2 := Lib.hid (HB.out.below h2)
  have hbase2 := Nat.le_trans hbase h2.size
  clear hHeld hW2 h2 hz2
  go_wp2_with (at_builtin; refine Shut.out ?_)
  unfold Shut
  refine wpList_app _ rfl _ _ 70 rfl encPt_len (by decide) oneP (base) 47 (.agg #[.int .i64 0, .int .i64 0]) 16 infoCell rfl Tryz.underlying70 _ _ _ _ rfl (HI2.out) _ _ _ rfl (HL2.out) ?c1 (by decide) ?c2 ?_
  case c1 => (first | (simp only [List.length_append, List.length_cons, List.length_nil]; omega) | omega | (simp; omega))
  case c2 => exact lEw
  intro v1 w1 hown1 hg1 hbel1 hat1
  have hel : 0 < (E ++ L).length := by rw [List.length_append, HQ.out]; omega
  obtain ⟨g5, cap5, rfl, hg5b, hg5l⟩ := hown1.form hel
  have hgr : W2.grownBy w1 (Value.slice (some ⟨bE, oE, none⟩) q cE).ownBlock := hg1
  obtain ⟨k1, k2⟩ := OwnL.keeps (by decide) HO2.out (W1 := w1) hgr
  have t3_2 := (k2 2).1.trans t2_2
  have t3_f := (k2 2).2
  have n1 := own_ne HI2.out HB2.out (by decide)
  have B3 := HB2.out.grown hgr n1.symm
  have HB3 := Lib.hid B3
  have HG3 := Lib.hid hgr
  have HW3 := Lib.hid hown1
  have HK3 := Lib.hid hbel1
  obtain ⟨q5, hq5⟩ : ∃ q5, (E ++ L).length = q5 := ⟨_, rfl⟩
  have HQ5 := Lib.hid hq5
  rw [hq5] at HW3 ⊢
  clear hown1 hg1 hbel1 hat1 hgr B3 n1 k2 hel hg5l t2_2 hq5
  go_wp2_with fail
  have hrow2 := own_below HROW.out HW2.out
  have hrow1 := hrow2.kept HG3.out (own_two hrow2 HI2.out (by decide))
  obtain ⟨cur, hcur⟩ : ∃ cur, Blk w1 g 72 cur := by
    rcases hrow1.2 with ⟨h, _⟩ | ⟨g', cap', cur, h, _, hh, _⟩
    · cases h
    · injection h with h _ _
      injection h with h
      injection h with h _ _
      rw [← h] at hh
      exact ⟨cur, hh⟩
  have hgg : gp ≠ g := fun e => own_ne hrow2 HB2.out (by decide) (by rw [e]; rfl)
  refine bodyPost_ret (results_none rfl _ _ _) rfl ⟨rfl, ⟨g, cap, ((3, false), (some ⟨g5, 0, none⟩, q5, cap5)), HB3.out.far (p := ⟨g, 2, none⟩) hgg _, ?_⟩, (KeptP.below HW2.out).trans ((KeptP.row HI2.out (.inr rfl) HG3.out).trans (KeptP.set hcur (.inr (.inl rfl)) 2 _)), ((HW2.out.mono hbase).trans HK3.out).setCell (p := ⟨g, 2, none⟩) hg1 _⟩
  exact OwnL.store encTr_len (by decide) HO2.out (x' := ((3, false), E ++ L)) (h' := ((3, false), (some ⟨g5, 0, none⟩, q5, cap5))) HG3.out (by
    show World.ownsRow _ base 47 2 _ (E ++ L).length ((E ++ L).flatMap encPt)
    rw [HQ5.out]; exact HW3.out) rfl rfl (j := 2) rfl
end Go.Proofs.YtneelidbgigehaaGreat

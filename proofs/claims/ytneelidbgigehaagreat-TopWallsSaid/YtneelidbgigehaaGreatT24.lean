/- Lemmas: WlkW. -/
import Derived.Test.YtneelidbgigehaaGreatT23
/- The walk along a loop: walked. -/
/- The walk along a loop: walked. -/
namespace Go.Proofs.YtneelidbgigehaaGreat
set_option linter.unusedSimpArgs false
set_option linter.unusedVariables false
set_option maxRecDepth 100000
open Go Go.Maps Go.RowKit Trc Runs Reg
open Trk (Cl Tr)
attribute [local go_sem] Kin.cell Kin.frozen Kin.lt0 Kin.lt1 Kin.lt2 Kin.lt3 run_mkf
theorem cut2 {F R : Nat → World → Prop} {P : Prop} (main : (∀ g W, F g W → R g W) → P) (pf : ∀ g W, F g W → R g W) : P := main pf
theorem ptNe_no (a : Pt) (w : World) : (binOp .neq 60 (.agg #[.int .i64 a.1, .int .i64 a.2]) (.agg #[.int .i64 a.1, .int .i64 a.2])).run Tryz.prog w = .ok (.bool false) w := by
  simp [go_sem]
theorem ptNe_yes {a b : Pt} (h : a ≠ b) (w : World) : (binOp .neq 60 (.agg #[.int .i64 a.1, .int .i64 a.2]) (.agg #[.int .i64 b.1, .int .i64 b.2])).run Tryz.prog w = .ok (.bool true) w := by
  by_cases h1 : a.1 = b.1
  · have h2 : ¬ a.2 = b.2 := fun h2 => h (Prod.ext h1 h2)
    simp [go_sem, h1, h2]
  · simp [go_sem, h1]
theorem step_inj {h : Int} (hh : 0 ≤ h ∧ h < 4) {a : Pt} {j k : Nat} (e : stepN h j a = stepN h k a) : j = k := by
  rw [step_eq, step_eq] at e
  have hc : h = 0 ∨ h = 1 ∨ h = 2 ∨ h = 3 := by omega
  rcases hc with rfl | rfl | rfl | rfl <;> simp at e <;> omega
theorem crk_near {S : Pt → Bool} (hS : ∀ c, S c = true → Trk.okc c = true) {p : Pt} {h : Int} (hc : crk S p h = true) : near5 p ∧ near5 (fromP h p) := by
  have hh := crk_h hc
  have h1 := hS _ (crk_iff.1 hc).2.1
  rw [Trk.okc_iff] at h1
  unfold lcP at h1
  unfold near5 fromP
  rcases hh with rfl | rfl | rfl | rfl <;> simp at h1 ⊢ <;> omega
theorem lc_go {p : Pt} {h : Int} : lcP (p.1 - (dvec h).1, p.2 - (dvec h).2) h = ((lcP p h).1 - (dvec h).1, (lcP p h).2 - (dvec h).2) := by
  unfold lcP
  split
  · rfl
  · split
    · simp; omega
    · split
      · simp; omega
      · simp; omega
theorem from_dvec {p : Pt} {h : Int} (hh : 0 ≤ h ∧ h < 4) : fromP h p = (p.1 + (dvec h).1, p.2 + (dvec h).2) := by
  have hc : h = 0 ∨ h = 1 ∨ h = 2 ∨ h = 3 := by omega
  rcases hc with rfl | rfl | rfl | rfl <;> simp [fromP, dvec] <;> omega
theorem right_cross {h g : Int} (hh : 0 ≤ h ∧ h < 4) (hg : 0 ≤ g ∧ g < 4) : (dvec h).1 * (dvec g).2 - (dvec h).2 * (dvec g).1 < 0 ↔ g = rt h := by
  have hc : h = 0 ∨ h = 1 ∨ h = 2 ∨ h = 3 := by omega
  have hd : g = 0 ∨ g = 1 ∨ g = 2 ∨ g = 3 := by omega
  rcases hc with rfl | rfl | rfl | rfl <;> rcases hd with rfl | rfl | rfl | rfl <;> decide
theorem dvec_in (h : Int) : -1 ≤ (dvec h).1 ∧ (dvec h).1 ≤ 1 ∧ -1 ≤ (dvec h).2 ∧ (dvec h).2 ≤ 1 := by
  unfold dvec
  split
  · simp
  · split
    · simp
    · split <;> simp
theorem dw_1 {h g : Int} (hh : 0 ≤ h ∧ h < 4) (hg : 0 ≤ g ∧ g < 4) : IntKind.i64.wrap ((dvec h).1 * (dvec g).2) = (dvec h).1 * (dvec g).2 := by
  have hc : h = 0 ∨ h = 1 ∨ h = 2 ∨ h = 3 := by omega
  have hd : g = 0 ∨ g = 1 ∨ g = 2 ∨ g = 3 := by omega
  rcases hc with rfl | rfl | rfl | rfl <;> rcases hd with rfl | rfl | rfl | rfl <;> decide
theorem dw_2 {h g : Int} (hh : 0 ≤ h ∧ h < 4) (hg : 0 ≤ g ∧ g < 4) : IntKind.i64.wrap ((dvec h).2 * (dvec g).1) = (dvec h).2 * (dvec g).1 := by
  have hc : h = 0 ∨ h = 1 ∨ h = 2 ∨ h = 3 := by omega
  have hd : g = 0 ∨ g = 1 ∨ g = 2 ∨ g = 3 := by omega
  rcases hc with rfl | rfl | rfl | rfl <;> rcases hd with rfl | rfl | rfl | rfl <;> decide
theorem dw_3 {h g : Int} (hh : 0 ≤ h ∧ h < 4) (hg : 0 ≤ g ∧ g < 4) : IntKind.i64.wrap ((dvec h).1 * (dvec g).2 - (dvec h).2 * (dvec g).1) = (dvec h).1 * (dvec g).2 - (dvec h).2 * (dvec g).1 := by
  have hc : h = 0 ∨ h = 1 ∨ h = 2 ∨ h = 3 := by omega
  have hd : g = 0 ∨ g = 1 ∨ g = 2 ∨ g = 3 := by omega
  rcases hc with rfl | rfl | rfl | rfl <;> rcases hd with rfl | rfl | rfl | rfl <;> decide
/-- the walker's memory: its place, its direction, the cells so far -/
structure WcI (w : World) (gp gd : Nat) (wr : World) (p : Pt) (h : Int) (A : Option Addr) (q c : Nat) (raw : List Cl) : Prop where
  hp : w.heap.size ≤ gp ∧ gp < gd
  vp : Blk wr gp 60 #[.int .i64 p.1, .int .i64 p.2]
  vd : Blk wr gd 60 #[.int .i64 (dvec h).1, .int .i64 (dvec h).2]
  own : wr.ownsRow (gd + 1) 47 2 (.slice A q c) (ded raw).length ((ded raw).flatMap encPt)
  hq : (ded raw).length = q
  grw : Below w.heap.size w wr
def InR (w : World) (gd : Nat) (L : List Leg) (i : Nat) (l : Leg) (N : Nat) (o : Value) (wr : World) : Prop :=
  ∃ (j : Nat) (A : Option Addr) (q c : Nat), j + N = l.2.2 ∧ o = .slice A q c ∧ WcI w w.heap.size gd wr (stepN l.2.1 j l.1) l.2.1 A q c (rawTo L i ++ legR (l.1, l.2.1, j))
def OuR (w : World) (gd n : Nat) (L : List Leg) (o e : Value) (wr : World) : Prop :=
  ∃ (i : Nat) (l : Leg) (A : Option Addr) (q c : Nat), i < n ∧ L[i]? = some l ∧ e = .int .i64 (i : Int) ∧ o = .slice A q c ∧ WcI w w.heap.size gd wr l.1 l.2.1 A q c (rawTo L i)
theorem trail_ge : ∀ {L : List Leg}, (∀ l ∈ L, 0 < l.2.2) → L.length ≤ (trail L).length
  | [], _ => Nat.zero_le _
  | l :: L, h => by
    have h1 := trail_ge (L := L) fun x hx => h x (by simp [hx])
    have h2 := h l (by simp)
    have e : trail (l :: L) = legC l ++ trail L := rfl
    rw [e, List.length_append]
    have e2 : (legC l).length = l.2.2 := by simp [legC]
    rw [e2, List.length_cons]
    omega
theorem loop_len {S : Pt → Bool} {L : List Leg} (hL : Trc.Loop S L) : L.length ≤ (trail L).length := trail_ge fun l hl => by
  obtain ⟨i, hi⟩ := List.mem_iff_getElem?.1 hl
  obtain ⟨x, y, h1, h2, h3, h4, h5⟩ := loop_next hL (List.getElem?_eq_some_iff.1 hi).1
  rw [hi] at h1
  injection h1 with h1
  exact h1 ▸ h4
theorem raw_le {S : Pt → Bool} {L : List Leg} (hL : Trc.Loop S L) {i : Nat} (hi : i ≤ L.length) : (rawTo L i).length ≤ 2 * (trail L).length := by
  rw [raw_is hL i hi]
  refine Nat.le_trans (flat_two (wcs_two S) _) (Nat.mul_le_mul_left 2 ?_)
  have e : trail L = trail (L.take i) ++ trail (L.drop i) := by unfold trail; rw [← List.flatMap_append, List.take_append_drop]
  rw [e, List.length_append]
  omega
theorem ded_le (l : List Cl) : (ded l).length ≤ l.length := (ded_spec _ l rfl).2.2.1
theorem raw_small {S : Pt → Bool} {L : List Leg} (hL : Trc.Loop S L) {i j : Nat} {l : Leg} (hl : L[i]? = some l) (hj : j ≤ l.2.2) : (ded (rawTo L i ++ legR (l.1, l.2.1, j))).length ≤ 2 * (trail L).length := by
  have hi := (List.getElem?_eq_some_iff.1 hl).1
  obtain ⟨x, y, h1, h2, _⟩ := loop_next hL hi
  rw [hl] at h1
  injection h1 with h1
  subst h1
  have h3 := raw_le hL (i := i + 1) (by omega)
  rw [rawTo_succ, legW_is hl h2] at h3
  refine Nat.le_trans (ded_le _) (Nat.le_trans ?_ h3)
  simp only [List.length_append]
  have e1 : (legR (l.1, l.2.1, j)).length = j := by simp [legR]
  have e2 : (legR l).length = l.2.2 := by simp [legR]
  omega
theorem own_far {base B size n : Nat} {e : TypeId} {W : World} {v : Value} {xs : List Value} (h : W.ownsRow base e size v n xs) (hb : B ≤ base) : ∀ b, v.ownBlock = some b → B ≤ b := fun b hb' => Nat.le_trans hb (h.lt b hb').1
set_option maxHeartbeats 16000000 in
theorem walk_any (S : Pt → Bool) (L : List Leg) (s : Value) (w : World) (h : Rd 2 encPt w s (L.map (·.1))) (hS : ∀ c, S c = true → Trk.okc c = true) (hL : Trc.Loop S L) (hlen : (trail L).length ≤ 400000) :
    Calls Tryz.prog 37 #[s] w fun e w' => (∃ u, e = .returned u ∧ (∀ b, u.ownBlock = some b → w.heap.size ≤ b) ∧ Rd 2 encPt w' u (walkL L)) ∧ Below w.heap.size w w' := by
  have hn : 0 < L.length := List.length_pos_iff.2 hL.ne
  obtain ⟨l0, l1, h0, h1, h3, h4, h6, h5⟩ := loop_next hL hn
  have mixed : Tryz.prog.follows .mixedOrders = true := by kernel_rfl
  have m0 : (L.map (·.1))[0]? = some l0.1 := by rw [List.getElem?_map, h0]; rfl
  have m1 : (L.map (·.1))[(0 + 1) % L.length]? = some l1.1 := by rw [List.getElem?_map, h1]; rfl
  obtain ⟨A, cap, rfl, hcap, hop⟩ := h.open_
  obtain ⟨b, off, rfl, hbl, hcell⟩ := hop 0 _ m0
  have cel : ∀ (i : Nat) (x : Pt), (L.map (·.1))[i]? = some x → w.cell? ⟨b, off + i * 2, none⟩ = some (.int .i64 x.1) ∧ w.cell? ⟨b, off + i * 2 + 1, none⟩ = some (.int .i64 x.2) := fun i x hx => ⟨hcell i x hx 0 _ rfl, hcell i x hx 1 _ rfl⟩
  have HCE := Lib.hid cel
  obtain ⟨n, hLn⟩ : ∃ n, L.length = n := ⟨_, rfl⟩
  have hn2 : 1 < n := by
    rw [← hLn]
    rcases Nat.lt_or_ge 1 L.length with h | h
    · exact h
    · exfalso
      have e : L.length = 1 := by omega
      rw [e] at h1
      rw [show (0 + 1) % 1 = 0 from rfl, h0] at h1
      injection h1 with h1
      subst h1
      obtain ⟨a, hd, k⟩ := l0
      have hh : hd = 0 ∨ hd = 1 ∨ hd = 2 ∨ hd = 3 := crk_h (h5 0 h4)
      have h4' : 0 < k := h4
      exact absurd (step_inj (h := hd) (a := a) (j := 0) (k := k) (by omega) (by simpa [stepN, endL] using h3)) (by omega)
  rw [List.length_map, hLn] at hcap ⊢
  rw [hLn] at h1 m1
  obtain ⟨a0, b0⟩ := cel 0 _ m0
  obtain ⟨a1, b1⟩ := cel 1 _ (by rw [Nat.mod_eq_of_lt hn2] at m1; exact m1)
  have hk0 := h5 0 h4
  have hh0 := crk_h hk0
  have hnear0 := (crk_near hS hk0).1
  have hdir : (sgI (l1.1.1 - l0.1.1), sgI (l1.1.2 - l0.1.2)) = dvec l0.2.1 := by rw [h3]; exact dir_leg h4 (by omega)
  have hnear1 : near6 l1.1 := by
    have := (crk_near hS (h5 (l0.2.2 - 1) (by omega))).2
    have e : fromP l0.2.1 (stepN l0.2.1 (l0.2.2 - 1) l0.1) = endL l0 := by
      obtain ⟨m, hm⟩ : ∃ m, l0.2.2 = m + 1 := ⟨l0.2.2 - 1, by omega⟩
      unfold endL; rw [hm]; rfl
    rw [e, ← h3] at this
    unfold near5 at this; unfold near6; omega
  have hnear0' : near6 l0.1 := by change near5 l0.1 at hnear0; unfold near5 at hnear0; unfold near6; omega
  have HL := Lib.hid hL
  have HS := Lib.hid hS
  have HLN := Lib.hid hLn
  have HLE := Lib.hid hlen
  have HD0 := Lib.hid hdir
  have HN0 := Lib.hid hnear0'
  have HN1 := Lib.hid hnear1
  have HH0 := Lib.hid hh0
  have H0 := Lib.hid h0
  have H1 := Lib.hid h1
  have H3 := Lib.hid h3
  simp only [Nat.zero_mul, Nat.add_zero, Nat.one_mul] at a0 b0 a1 b1
  clear hL hS hLn hlen hdir hnear0 hnear0' hnear1 hh0 hk0 h0 h1 h3 h4 h5 h6 m0 m1 hop hcell cel h
  have hn0 : 0 < n := by omega
  have hnl : n ≤ 400000 := by have := loop_len HL.out; rw [HLN.out] at this; exact Nat.le_trans this HLE.out
  have hn3 : (1 : Int) < (n : Int) := by omega
  go_enter Tryz.func37, Tryz.ntmps37
  go_wp2_with fail
  go_step3
  go_wp2_with fail
  refine wp_region_held_drew (S := fun w' => Below w.heap.size w w') (by kernel_rfl) ((Below.refl _ _).drew) (fun hHeld => ?_)
  try simp only [List.size_toArray, List.length_cons, List.length_nil, Nat.zero_add, Nat.reduceAdd, List.replicate, Array.replicate]
  refine wpAnyH_take (i := 0) (v := ?_) rfl (by kernel_rfl) (by kernel_rfl) (by kernel_rfl) (fun _ _ _ h => h) (Or.inl ⟨by kernel_rfl, ?_⟩) (by assumption) ?_
  rotate_left
  · (intro w' hSw; have s0 := (hSw.cell (p := ⟨b, off, none⟩) hbl).trans a0; have s1 := (hSw.cell (p := ⟨b, off + 1, none⟩) hbl).trans b0; go_simp; try with_reducible rfl)
  try simp only [List.getElem_toArray, List.getElem_cons_succ, List.getElem_cons_zero, Act.put, List.setIfInBounds_toArray, List.set_cons_zero, List.set_cons_succ]
  refine wpAnyH_take (i := 1) (v := ?_) rfl (by kernel_rfl) (by kernel_rfl) (by kernel_rfl) (fun _ _ _ h => h) (Or.inl ⟨by kernel_rfl, ?_⟩) (by assumption) ?_
  rotate_left
  · (intro w' hSw; have s0 := (hSw.cell (p := ⟨b, off, none⟩) hbl).trans a0; have s1 := (hSw.cell (p := ⟨b, off + 1, none⟩) hbl).trans b0; go_simp; try with_reducible rfl)
  try simp only [List.getElem_toArray, List.getElem_cons_succ, List.getElem_cons_zero, Act.put, List.setIfInBounds_toArray, List.set_cons_zero, List.set_cons_succ]
  refine wpAnyH_take (i := 2) (v := ?_) rfl (by kernel_rfl) (by kernel_rfl) (by kernel_rfl) (fun _ _ _ h => h) (Or.inl ⟨by kernel_rfl, ?_⟩) (by assumption) ?_
  rotate_left
  · (intro w' hSw; have s0 := (hSw.cell (p := ⟨b, off, none⟩) hbl).trans a0; have s1 := (hSw.cell (p := ⟨b, off + 1, none⟩) hbl).trans b0; go_simp; try with_reducible rfl)
  try simp only [List.getElem_toArray, List.getElem_cons_succ, List.getElem_cons_zero, Act.put, List.setIfInBounds_toArray, List.set_cons_zero, List.set_cons_succ]
  ((first | refine wpAnyH_ready (rs := [3]) (by kernel_rfl) (by simp) (AllReadyH.cons rfl (fun K hK => ?_) AllReadyH.nil)) <;> (go_simp; refine hK.out _ _ gRw (fun hHeld2 => ?_); clear hK hHeld; have hHeld := hHeld2; clear hHeld2 K; try simp only [List.getElem_toArray, List.getElem_cons_succ, List.getElem_cons_zero, Act.put, List.setIfInBounds_toArray, List.set_cons_zero, List.set_cons_succ]))
  ((first | refine wpAnyH_ready (rs := [4]) (by kernel_rfl) (by simp) (AllReadyH.cons rfl (fun K hK => ?_) AllReadyH.nil)) <;> (go_simp; refine hK.out _ _ gRw (fun hHeld2 => ?_); clear hK hHeld; have hHeld := hHeld2; clear hHeld2 K; try simp only [List.getElem_toArray, List.getElem_cons_succ, List.getElem_cons_zero, Act.put, List.setIfInBounds_toArray, List.set_cons_zero, List.set_cons_succ]))
  ((first | refine wpAnyH_ready (rs := [5]) (by kernel_rfl) (by simp) (AllReadyH.cons rfl (fun K hK => ?_) AllReadyH.nil)) <;> (go_simp; refine hK.out _ _ gRw (fun hHeld2 => ?_); clear hK hHeld; have hHeld := hHeld2; clear hHeld2 K; try simp only [List.getElem_toArray, List.getElem_cons_succ, List.getElem_cons_zero, Act.put, List.setIfInBounds_toArray, List.set_cons_zero, List.set_cons_succ]))
  refine wpAnyH_done (by kernel_rfl) ?_ _
  clear hHeld
  obtain ⟨W1, hW1⟩ : ∃ W1, (w.alloc (.cells #[.int .i64 l0.1.1, .int .i64 l0.1.2] 60)).drew = W1 := ⟨_, rfl⟩
  have vp1 : Blk W1 w.heap.size 60 #[.int .i64 l0.1.1, .int .i64 l0.1.2] := by
    rw [← hW1]
    exact (Blk.new w _ _).below (Below.refl _ _).drew
  have hb1 : Below w.heap.size w W1 := by rw [← hW1]; exact gRw
  have hl1 := vp1.lt
  rw [hW1]
  clear hW1
  replace a0 := (hb1.cell (p := ⟨b, off, none⟩) hbl).trans a0
  replace b0 := (hb1.cell (p := ⟨b, off + 1, none⟩) hbl).trans b0
  replace a1 := (hb1.cell (p := ⟨b, off + 2, none⟩) hbl).trans a1
  replace b1 := (hb1.cell (p := ⟨b, off + 2 + 1, none⟩) hbl).trans b1
  have hbl1 : b < W1.heap.size := Nat.lt_of_lt_of_le hbl hb1.size
  go_wp2_with fail
  refine wp_region_held_drew (S := fun w' => Below W1.heap.size W1 w') (by kernel_rfl) ((Below.refl _ _).drew) (fun hHeld => ?_)
  try simp only [List.size_toArray, List.length_cons, List.length_nil, Nat.zero_add, Nat.reduceAdd, List.replicate, Array.replicate]
  refine wpAnyH_take (i := 0) (v := ?_) rfl (by kernel_rfl) (by kernel_rfl) (by kernel_rfl) (fun _ _ _ h => h) (Or.inl ⟨by kernel_rfl, ?_⟩) (by assumption) ?_
  rotate_left
  · (intro w' hSw; have s0 := (hSw.cell (p := ⟨b, off, none⟩) hbl1).trans a0; have s1 := (hSw.cell (p := ⟨b, off + 1, none⟩) hbl1).trans b0; have s2 := (hSw.cell (p := ⟨b, off + 2, none⟩) hbl1).trans a1; have s3 := (hSw.cell (p := ⟨b, off + 2 + 1, none⟩) hbl1).trans b1; go_simp; try with_reducible rfl)
  try simp only [List.getElem_toArray, List.getElem_cons_succ, List.getElem_cons_zero, Act.put, List.setIfInBounds_toArray, List.set_cons_zero, List.set_cons_succ]
  refine wpAnyH_take (i := 1) (v := ?_) rfl (by kernel_rfl) (by kernel_rfl) (by kernel_rfl) (fun _ _ _ h => h) (Or.inl ⟨by kernel_rfl, ?_⟩) (by assumption) ?_
  rotate_left
  · (intro w' hSw; have s0 := (hSw.cell (p := ⟨b, off, none⟩) hbl1).trans a0; have s1 := (hSw.cell (p := ⟨b, off + 1, none⟩) hbl1).trans b0; have s2 := (hSw.cell (p := ⟨b, off + 2, none⟩) hbl1).trans a1; have s3 := (hSw.cell (p := ⟨b, off + 2 + 1, none⟩) hbl1).trans b1; go_simp; try with_reducible rfl)
  try simp only [List.getElem_toArray, List.getElem_cons_succ, List.getElem_cons_zero, Act.put, List.setIfInBounds_toArray, List.set_cons_zero, List.set_cons_succ]
  refine wpAnyH_take (i := 2) (v := ?_) rfl (by kernel_rfl) (by kernel_rfl) (by kernel_rfl) (fun _ _ _ h => h) (Or.inl ⟨by kernel_rfl, ?_⟩) (by assumption) ?_
  rotate_left
  · (intro w' hSw; have s0 := (hSw.cell (p := ⟨b, off, none⟩) hbl1).trans a0; have s1 := (hSw.cell (p := ⟨b, off + 1, none⟩) hbl1).trans b0; have s2 := (hSw.cell (p := ⟨b, off + 2, none⟩) hbl1).trans a1; have s3 := (hSw.cell (p := ⟨b, off + 2 + 1, none⟩) hbl1).trans b1; go_simp; try with_reducible rfl)
  try simp only [List.getElem_toArray, List.getElem_cons_succ, List.getElem_cons_zero, Act.put, List.setIfInBounds_toArray, List.set_cons_zero, List.set_cons_succ]
  refine wpAnyH_take (i := 3) (v := ?_) rfl (by kernel_rfl) (by kernel_rfl) (by kernel_rfl) (fun _ _ _ h => h) (Or.inl ⟨by kernel_rfl, ?_⟩) (by assumption) ?_
  rotate_left
  · (intro w' hSw; have s0 := (hSw.cell (p := ⟨b, off, none⟩) hbl1).trans a0; have s1 := (hSw.cell (p := ⟨b, off + 1, none⟩) hbl1).trans b0; have s2 := (hSw.cell (p := ⟨b, off + 2, none⟩) hbl1).trans a1; have s3 := (hSw.cell (p := ⟨b, off + 2 + 1, none⟩) hbl1).trans b1; go_simp; try with_reducible rfl)
  try simp only [List.getElem_toArray, List.getElem_cons_succ, List.getElem_cons_zero, Act.put, List.setIfInBounds_toArray, List.set_cons_zero, List.set_cons_succ]
  refine wpAnyH_take (i := 4) (v := ?_) rfl (by kernel_rfl) (by kernel_rfl) (by kernel_rfl) (fun _ _ _ h => h) (Or.inl ⟨by kernel_rfl, ?_⟩) (by assumption) ?_
  rotate_left
  · (intro w' hSw; have s0 := (hSw.cell (p := ⟨b, off, none⟩) hbl1).trans a0; have s1 := (hSw.cell (p := ⟨b, off + 1, none⟩) hbl1).trans b0; have s2 := (hSw.cell (p := ⟨b, off + 2, none⟩) hbl1).trans a1; have s3 := (hSw.cell (p := ⟨b, off + 2 + 1, none⟩) hbl1).trans b1; go_simp; try with_reducible rfl)
  try simp only [List.getElem_toArray, List.getElem_cons_succ, List.getElem_cons_zero, Act.put, List.setIfInBounds_toArray, List.set_cons_zero, List.set_cons_succ]
  refine wpAnyH_take (i := 5) (v := ?_) rfl (by kernel_rfl) (by kernel_rfl) (by kernel_rfl) (fun _ _ _ h => h) (Or.inl ⟨by kernel_rfl, ?_⟩) (by assumption) ?_
  rotate_left
  · (intro w' hSw; have s0 := (hSw.cell (p := ⟨b, off, none⟩) hbl1).trans a0; have s1 := (hSw.cell (p := ⟨b, off + 1, none⟩) hbl1).trans b0; have s2 := (hSw.cell (p := ⟨b, off + 2, none⟩) hbl1).trans a1; have s3 := (hSw.cell (p := ⟨b, off + 2 + 1, none⟩) hbl1).trans b1; go_simp; try with_reducible rfl)
  try simp only [List.getElem_toArray, List.getElem_cons_succ, List.getElem_cons_zero, Act.put, List.setIfInBounds_toArray, List.set_cons_zero, List.set_cons_succ]
  clear hHeld
  apply cut2 (F := fun g W' => W1.heap.size ≤ g ∧ Blk W' g 60 #[.int .i64 (dvec l0.2.1).1, .int .i64 (dvec l0.2.1).2] ∧ Below W1.heap.size W1 W')
  case main =>
    intro key
    have hHeld : True := trivial
    refine wpAnyH_ready (rs := [6, 7]) (by kernel_rfl) (by simp) (AllReadyH.cons rfl (fun K hK => ?_) (AllReadyH.cons rfl (fun K hK => ?_) AllReadyH.nil))
    · go_simp
      (go_at_call 74; (with_reducible refine (Kin.callK (W := W1) gRw (direction_any l0.1 l1.1 _ HN0.out HN1.out)).mono ?_); rintro e w' ⟨z2, rfl, hz2, rfl⟩; skip)
      simp only []
      refine hK.out _ _ (z2.2) (fun hHeld2 => ?_)
      clear hK hHeld
      have hHeld := hHeld2
      clear hHeld2 K
      try simp only [List.getElem_toArray, List.getElem_cons_succ, List.getElem_cons_zero, Act.put, List.setIfInBounds_toArray, List.set_cons_zero, List.set_cons_succ]
      ((first | refine wpAnyH_ready (rs := [7]) (by kernel_rfl) (by simp) (AllReadyH.cons rfl (fun K hK => ?_) AllReadyH.nil)) <;> (go_simp; refine hK.out _ _ gRw (fun hHeld2 => ?_); clear hK hHeld; have hHeld := hHeld2; clear hHeld2 K; try simp only [List.getElem_toArray, List.getElem_cons_succ, List.getElem_cons_zero, Act.put, List.setIfInBounds_toArray, List.set_cons_zero, List.set_cons_succ]))
      ((first | refine wpAnyH_ready (rs := [8]) (by kernel_rfl) (by simp) (AllReadyH.cons rfl (fun K hK => ?_) AllReadyH.nil)) <;> (go_simp; refine hK.out _ _ gRw (fun hHeld2 => ?_); clear hK hHeld; have hHeld := hHeld2; clear hHeld2 K; try simp only [List.getElem_toArray, List.getElem_cons_succ, List.getElem_cons_zero, Act.put, List.setIfInBounds_toArray, List.set_cons_zero, List.set_cons_succ]))
      refine wpAnyH_done (by kernel_rfl) ?_ _
      clear hHeld
      obtain ⟨G, hG⟩ : ∃ G, z2.1.heap.size = G := ⟨_, rfl⟩
      obtain ⟨W4, hW4⟩ : ∃ W4, z2.1.alloc (.cells #[.int .i64 (sgI (l1.1.1 - l0.1.1)), .int .i64 (sgI (l1.1.2 - l0.1.2))] 60) = W4 := ⟨_, rfl⟩
      have hb : Blk W4 G 60 #[.int .i64 (dvec l0.2.1).1, .int .i64 (dvec l0.2.1).2] := by
        rw [← hW4, ← hG, ← HD0.out]; exact Blk.new _ _ _
      have hz : W1.heap.size ≤ G := by rw [← hG]; exact z2.2.size
      have hbw : Below W1.heap.size W1 W4 := by rw [← hW4]; exact z2.2.alloc z2.2.size _
      rw [hG, hW4]
      exact key G W4 ⟨hz, hb, hbw⟩
    · go_simp
      refine hK.out _ _ gRw (fun hHeld2 => ?_)
      clear hK hHeld
      have hHeld := hHeld2
      clear hHeld2 K
      try simp only [List.getElem_toArray, List.getElem_cons_succ, List.getElem_cons_zero, Act.put, List.setIfInBounds_toArray, List.set_cons_zero, List.set_cons_succ]
      refine wpAnyH_ready (rs := [6]) (by kernel_rfl) (by simp) (AllReadyH.cons rfl (fun K hK => ?_) AllReadyH.nil)
      go_simp
      obtain ⟨W3, hW3⟩ : ∃ W3, (W1.alloc (.cells #[.int .i64 0, .int .i64 0] 60)).drew = W3 := ⟨_, rfl⟩
      rw [hW3]
      have hb3 : Blk W3 W1.heap.size 60 #[.int .i64 0, .int .i64 0] := by rw [← hW3]; exact (Blk.new W1 _ _).below (Below.refl _ _).drew
      have hz3 : Below W1.heap.size W1 W3 := by rw [← hW3]; exact gRw
      clear hW3
      (go_at_call 74; (refine (direction_any l0.1 l1.1 _ HN0.out HN1.out).mono ?_); rintro e W4 ⟨rfl, hb4⟩)
      simp only []
      have hb5 := hb3.below hb4
      have c5 : W4.cell? ⟨W1.heap.size, 0, none⟩ = some (.int .i64 0) := hb5.cell 0
      have c6 : W4.cell? ⟨W1.heap.size, 1, none⟩ = some (.int .i64 0) := hb5.cell 1
      have f5 := hb5.frozen 0
      have f6 := hb5.frozen 1
      have l5 := hb5.lt
      have hz4 : Below W1.heap.size W1 W4 := hz3.trans (hb4.mono hz3.size)
      refine hK.out _ _ (hz4) (fun hHeld2 => ?_)
      clear hK hHeld
      have hHeld := hHeld2
      clear hHeld2 K
      try simp only [List.getElem_toArray, List.getElem_cons_succ, List.getElem_cons_zero, Act.put, List.setIfInBounds_toArray, List.set_cons_zero, List.set_cons_succ]
      refine wpAnyH_ready (rs := [8]) (by kernel_rfl) (by simp) (AllReadyH.cons rfl (fun K hK => ?_) AllReadyH.nil)
      go_simp
      refine hK.out _ _ ((hz4.setCell (p := ⟨W1.heap.size, 0, none⟩) (Nat.le_refl _) _).setCell (p := ⟨W1.heap.size, 1, none⟩) (Nat.le_refl _) _) (fun hHeld2 => ?_)
      clear hK hHeld
      have hHeld := hHeld2
      clear hHeld2 K
      try simp only [List.getElem_toArray, List.getElem_cons_succ, List.getElem_cons_zero, Act.put, List.setIfInBounds_toArray, List.set_cons_zero, List.set_cons_succ]
      refine wpAnyH_done (by kernel_rfl) ?_ _
      clear hHeld
      obtain ⟨G, hG⟩ : ∃ G, W1.heap.size = G := ⟨_, rfl⟩
      rw [hG] at hb5 ⊢
      obtain ⟨W5, hW5⟩ : ∃ W5, (W4.setCell ⟨G, 0, none⟩ (.int .i64 (sgI (l1.1.1 - l0.1.1)))).setCell ⟨G, 1, none⟩ (.int .i64 (sgI (l1.1.2 - l0.1.2))) = W5 := ⟨_, rfl⟩
      have hb : Blk W5 G 60 #[.int .i64 (dvec l0.2.1).1, .int .i64 (dvec l0.2.1).2] := by
        rw [← hW5, ← HD0.out]; exact (hb5.set_ 0 _).set_ 1 _
      have hbw : Below W1.heap.size W1 W5 := by rw [← hW5]; exact (hz4.setCell (p := ⟨G, 0, none⟩) (Nat.le_of_eq hG) _).setCell (p := ⟨G, 1, none⟩) (Nat.le_of_eq hG) _
      rw [hW5]
      exact key G W5 ⟨Nat.le_of_eq hG, hb, hbw⟩
  case pf =>
    rintro gd W2 ⟨hgd, vd2, hb2⟩
    have vp2 := vp1.below hb2
    have hbw2 := hb1.trans (hb2.mono hb1.size)
    go_wp2_with fail
    go_step3
    go_wp2_with fail
    have hst : OuR w gd n L (.slice none 0 0) (.int .i64 0) W2 :=
      ⟨0, l0, none, 0, 0, hn0, H0.out, rfl, rfl, ⟨⟨Nat.le_refl _, by omega⟩, vp2, vd2, World.ownsRow_nil _ _ _ _, rfl, hbw2⟩⟩
    have HST := Lib.hid hst
    have hgd2 : w.heap.size < gd := by omega
    clear hst hb2 vp2 vd2 hbw2 vp1 hb1 a0 b0 a1 b1 hl1 hgd hbl1
    go_loopw [3, 4] (fun o e wr => Hid (OuR w gd n L o e wr)) (fun _ e _ => n - (intOf e).toNat)
    case atStart => exact HST
    case round =>
      clear HST
      obtain ⟨i, l, A, q, c, hi, hl, rfl, rfl, HI⟩ := hrel.out
      have hi' : i < L.length := by rw [HLN.out]; exact hi
      obtain ⟨l', y, k0, k1, k3, k4, k6, k5⟩ := loop_next HL.out hi'
      rw [hl] at k0
      injection k0 with k0
      subst k0
      have HI2 := Lib.hid (show InR w gd L i l l.2.2 (.slice A q c) wr from ⟨0, A, q, c, by omega, rfl, by simpa [legR, stepN] using HI⟩)
      rw [HLN.out] at k1
      obtain ⟨qn, hqn⟩ : ∃ qn, (i + 1) % n = qn := ⟨_, rfl⟩
      have hqlt : qn < n := by rw [← hqn]; exact Nat.mod_lt _ hn0
      rw [hqn] at k1
      have e1 : IntKind.i64.wrap ((i : Int) + 1) = (i : Int) + 1 := by
        exact IntWalk.i64_in _ (by omega)
      have e2 : ((i : Int) + 1).tmod (n : Int) = (qn : Int) := by rw [Int.tmod_eq_emod_of_nonneg (by omega), ← hqn]; rfl
      have e2b : ((i : Int) + 1) % (n : Int) = (qn : Int) := by rw [← hqn]; rfl
      have HQN := Lib.hid hqn
      have HK1 := Lib.hid k1
      have HK3 := Lib.hid k3
      have HK5 := Lib.hid k5
      have HK6 := Lib.hid k6
      have HLI := Lib.hid hl
      clear hrel HI hqn k1 k3 k5 k6 hl
      have hne0 : ¬ n = 0 := by omega
      have hqlt2 : (qn : Int) < (n : Int) := by omega
      go_wp2_with fail
      go_loopw [3] (fun o wr => ∃ N, Hid (InR w gd L i l N o wr)) (fun o wr => minN (fun N => InR w gd L i l N o wr))
      case atStart => exact ⟨_, HI2⟩
      case round =>
        obtain ⟨N0, hN0⟩ := hrel
        have hmin := minN_is (p := fun N => InR w gd L i l N u3 wr) ⟨N0, hN0.out⟩
        obtain ⟨N, hN⟩ : ∃ N, minN (fun N => InR w gd L i l N u3 wr) = N := ⟨_, rfl⟩
        rw [hN] at hmin
        have HNM := Lib.hid hN
        clear hN hN0 N0 HI2
        obtain ⟨j, A2, q2, c2, hjN, ho, I⟩ := hmin
        subst ho
        have p_0 : wr.cell? ⟨w.heap.size, 0, none⟩ = some (.int .i64 (stepN l.2.1 j l.1).1) := I.vp.cell 0
        have p_1 : wr.cell? ⟨w.heap.size, 1, none⟩ = some (.int .i64 (stepN l.2.1 j l.1).2) := I.vp.cell 1
        have p_l := I.vp.lt
        have d_0 : wr.cell? ⟨gd, 0, none⟩ = some (.int .i64 (dvec l.2.1).1) := I.vd.cell 0
        have d_1 : wr.cell? ⟨gd, 1, none⟩ = some (.int .i64 (dvec l.2.1).2) := I.vd.cell 1
        have d_l := I.vd.lt
        have hbw := I.grw
        have hblr : b < wr.heap.size := Nat.lt_of_lt_of_le hbl hbw.size
        obtain ⟨va, vb⟩ := HCE.out qn y.1 (by rw [List.getElem?_map, HK1.out]; rfl)
        replace va := (hbw.cell (p := ⟨b, off + qn * 2, none⟩) hbl).trans va
        replace vb := (hbw.cell (p := ⟨b, off + qn * 2 + 1, none⟩) hbl).trans vb
        have HII := Lib.hid I
        obtain ⟨p, hp⟩ : ∃ p, stepN l.2.1 j l.1 = p := ⟨_, rfl⟩
        rw [hp] at p_0 p_1
        have HP := Lib.hid hp
        have HJN := Lib.hid hjN
        clear I hbw hp hjN
        by_cases hj : N = 0
        · have hpy : p = y.1 := by
            rw [HK3.out, ← HP.out]; have := HJN.out; unfold endL; rw [show j = l.2.2 from by omega]
          have hne := ptNe_no p
          rw [← hpy] at va vb
          have HPY := Lib.hid hpy
          clear hpy
          go_wp2_with fail
          refine wp_region_held_drew (S := fun w' => Below wr.heap.size wr w') (by kernel_rfl) ((Below.refl _ _).drew) (fun hHeld => ?_)
          try simp only [List.size_toArray, List.length_cons, List.length_nil, Nat.zero_add, Nat.reduceAdd, List.replicate, Array.replicate]
          refine wpAnyH_take (i := 0) (v := ?_) rfl (by kernel_rfl) (by kernel_rfl) (by kernel_rfl) (fun _ _ _ h => h) (Or.inl ⟨by kernel_rfl, ?_⟩) (by assumption) ?_
          rotate_left
          · (intro w' hSw; have s0 := (hSw.cell (p := ⟨w.heap.size, 0, none⟩) p_l).trans p_0; have s1 := (hSw.cell (p := ⟨w.heap.size, 1, none⟩) p_l).trans p_1; have s2 := (hSw.cell (p := ⟨b, off + qn * 2, none⟩) hblr).trans va; have s3 := (hSw.cell (p := ⟨b, off + qn * 2 + 1, none⟩) hblr).trans vb; go_simp; try with_reducible rfl)
          try simp only [List.getElem_toArray, List.getElem_cons_succ, List.getElem_cons_zero, Act.put, List.setIfInBounds_toArray, List.set_cons_zero, List.set_cons_succ]
          refine wpAnyH_take (i := 1) (v := ?_) rfl (by kernel_rfl) (by kernel_rfl) (by kernel_rfl) (fun _ _ _ h => h) (Or.inl ⟨by kernel_rfl, ?_⟩) (by assumption) ?_
          rotate_left
          · (intro w' hSw; have s0 := (hSw.cell (p := ⟨w.heap.size, 0, none⟩) p_l).trans p_0; have s1 := (hSw.cell (p := ⟨w.heap.size, 1, none⟩) p_l).trans p_1; have s2 := (hSw.cell (p := ⟨b, off + qn * 2, none⟩) hblr).trans va; have s3 := (hSw.cell (p := ⟨b, off + qn * 2 + 1, none⟩) hblr).trans vb; go_simp; try with_reducible rfl)
          try simp only [List.getElem_toArray, List.getElem_cons_succ, List.getElem_cons_zero, Act.put, List.setIfInBounds_toArray, List.set_cons_zero, List.set_cons_succ]
          refine wpAnyH_take (i := 2) (v := ?_) rfl (by kernel_rfl) (by kernel_rfl) (by kernel_rfl) (fun _ _ _ h => h) (Or.inl ⟨by kernel_rfl, ?_⟩) (by assumption) ?_
          rotate_left
          · (intro w' hSw; have s0 := (hSw.cell (p := ⟨w.heap.size, 0, none⟩) p_l).trans p_0; have s1 := (hSw.cell (p := ⟨w.heap.size, 1, none⟩) p_l).trans p_1; have s2 := (hSw.cell (p := ⟨b, off + qn * 2, none⟩) hblr).trans va; have s3 := (hSw.cell (p := ⟨b, off + qn * 2 + 1, none⟩) hblr).trans vb; go_simp; try with_reducible rfl)
          try simp only [List.getElem_toArray, List.getElem_cons_succ, List.getElem_cons_zero, Act.put, List.setIfInBounds_toArray, List.set_cons_zero, List.set_cons_succ]
          refine wpAnyH_take (i := 3) (v := ?_) rfl (by kernel_rfl) (by kernel_rfl) (by kernel_rfl) (fun _ _ _ h => h) (Or.inl ⟨by kernel_rfl, ?_⟩) (by assumption) ?_
          rotate_left
          · (intro w' hSw; have s0 := (hSw.cell (p := ⟨w.heap.size, 0, none⟩) p_l).trans p_0; have s1 := (hSw.cell (p := ⟨w.heap.size, 1, none⟩) p_l).trans p_1; have s2 := (hSw.cell (p := ⟨b, off + qn * 2, none⟩) hblr).trans va; have s3 := (hSw.cell (p := ⟨b, off + qn * 2 + 1, none⟩) hblr).trans vb; go_simp; try with_reducible rfl)
          try simp only [List.getElem_toArray, List.getElem_cons_succ, List.getElem_cons_zero, Act.put, List.setIfInBounds_toArray, List.set_cons_zero, List.set_cons_succ]
          refine wpAnyH_take (i := 4) (v := ?_) rfl (by kernel_rfl) (by kernel_rfl) (by kernel_rfl) (fun _ _ _ h => h) (Or.inl ⟨by kernel_rfl, ?_⟩) (by assumption) ?_
          rotate_left
          · (intro w' hSw; have s0 := (hSw.cell (p := ⟨w.heap.size, 0, none⟩) p_l).trans p_0; have s1 := (hSw.cell (p := ⟨w.heap.size, 1, none⟩) p_l).trans p_1; have s2 := (hSw.cell (p := ⟨b, off + qn * 2, none⟩) hblr).trans va; have s3 := (hSw.cell (p := ⟨b, off + qn * 2 + 1, none⟩) hblr).trans vb; go_simp; try with_reducible rfl)
          try simp only [List.getElem_toArray, List.getElem_cons_succ, List.getElem_cons_zero, Act.put, List.setIfInBounds_toArray, List.set_cons_zero, List.set_cons_succ]
          refine wpAnyH_take (i := 5) (v := ?_) rfl (by kernel_rfl) (by kernel_rfl) (by kernel_rfl) (fun _ _ _ h => h) (Or.inl ⟨by kernel_rfl, ?_⟩) (by assumption) ?_
          rotate_left
          · (intro w' hSw; have s0 := (hSw.cell (p := ⟨w.heap.size, 0, none⟩) p_l).trans p_0; have s1 := (hSw.cell (p := ⟨w.heap.size, 1, none⟩) p_l).trans p_1; have s2 := (hSw.cell (p := ⟨b, off + qn * 2, none⟩) hblr).trans va; have s3 := (hSw.cell (p := ⟨b, off + qn * 2 + 1, none⟩) hblr).trans vb; go_simp; try with_reducible rfl)
          try simp only [List.getElem_toArray, List.getElem_cons_succ, List.getElem_cons_zero, Act.put, List.setIfInBounds_toArray, List.set_cons_zero, List.set_cons_succ]
          refine wpAnyH_take (i := 6) (v := ?_) rfl (by kernel_rfl) (by kernel_rfl) (by kernel_rfl) (fun _ _ _ h => h) (Or.inl ⟨by kernel_rfl, ?_⟩) (by assumption) ?_
          rotate_left
          · (intro w' hSw; have s0 := (hSw.cell (p := ⟨w.heap.size, 0, none⟩) p_l).trans p_0; have s1 := (hSw.cell (p := ⟨w.heap.size, 1, none⟩) p_l).trans p_1; have s2 := (hSw.cell (p := ⟨b, off + qn * 2, none⟩) hblr).trans va; have s3 := (hSw.cell (p := ⟨b, off + qn * 2 + 1, none⟩) hblr).trans vb; go_simp; try with_reducible rfl)
          try simp only [List.getElem_toArray, List.getElem_cons_succ, List.getElem_cons_zero, Act.put, List.setIfInBounds_toArray, List.set_cons_zero, List.set_cons_succ]
          refine wpAnyH_take (i := 7) (v := ?_) rfl (by kernel_rfl) (by kernel_rfl) (by kernel_rfl) (fun _ _ _ h => h) (Or.inl ⟨by kernel_rfl, ?_⟩) (by assumption) ?_
          rotate_left
          · (intro w' hSw; have s0 := (hSw.cell (p := ⟨w.heap.size, 0, none⟩) p_l).trans p_0; have s1 := (hSw.cell (p := ⟨w.heap.size, 1, none⟩) p_l).trans p_1; have s2 := (hSw.cell (p := ⟨b, off + qn * 2, none⟩) hblr).trans va; have s3 := (hSw.cell (p := ⟨b, off + qn * 2 + 1, none⟩) hblr).trans vb; go_simp; try with_reducible rfl)
          try simp only [List.getElem_toArray, List.getElem_cons_succ, List.getElem_cons_zero, Act.put, List.setIfInBounds_toArray, List.set_cons_zero, List.set_cons_succ]
          refine wpAnyH_take (i := 8) (v := ?_) rfl (by kernel_rfl) (by kernel_rfl) (by kernel_rfl) (fun _ _ _ h => h) (Or.inl ⟨by kernel_rfl, ?_⟩) (by assumption) ?_
          rotate_left
          · (intro w' hSw; have s0 := (hSw.cell (p := ⟨w.heap.size, 0, none⟩) p_l).trans p_0; have s1 := (hSw.cell (p := ⟨w.heap.size, 1, none⟩) p_l).trans p_1; have s2 := (hSw.cell (p := ⟨b, off + qn * 2, none⟩) hblr).trans va; have s3 := (hSw.cell (p := ⟨b, off + qn * 2 + 1, none⟩) hblr).trans vb; go_simp; try with_reducible rfl)
          try simp only [List.getElem_toArray, List.getElem_cons_succ, List.getElem_cons_zero, Act.put, List.setIfInBounds_toArray, List.set_cons_zero, List.set_cons_succ]
          refine wpAnyH_take (i := 9) (v := ?_) rfl (by kernel_rfl) (by kernel_rfl) (by kernel_rfl) (fun _ _ _ h => h) (Or.inl ⟨by kernel_rfl, ?_⟩) (by assumption) ?_
          rotate_left
          · (intro w' hSw; have s0 := (hSw.cell (p := ⟨w.heap.size, 0, none⟩) p_l).trans p_0; have s1 := (hSw.cell (p := ⟨w.heap.size, 1, none⟩) p_l).trans p_1; have s2 := (hSw.cell (p := ⟨b, off + qn * 2, none⟩) hblr).trans va; have s3 := (hSw.cell (p := ⟨b, off + qn * 2 + 1, none⟩) hblr).trans vb; go_simp; try with_reducible rfl)
          try simp only [List.getElem_toArray, List.getElem_cons_succ, List.getElem_cons_zero, Act.put, List.setIfInBounds_toArray, List.set_cons_zero, List.set_cons_succ]
          refine wpAnyH_done (by kernel_rfl) ?_ _
          clear hHeld
          have hqn' : qn < L.length := by rw [HLN.out]; exact hqlt
          obtain ⟨y', vv, m0, m1, m3, m4, m6, m5⟩ := loop_next HL.out hqn'
          rw [HK1.out] at m0
          injection m0 with m0
          subst m0
          rw [HLN.out] at m1
          obtain ⟨rn, hrn⟩ : ∃ rn, (qn + 1) % n = rn := ⟨_, rfl⟩
          have hrlt : rn < n := by rw [← hrn]; exact Nat.mod_lt _ hn0
          have hrlt2 : (rn : Int) < (n : Int) := by omega
          rw [hrn] at m1
          have hrn2 : (i + 1 + 1) % n = rn := by rw [← hrn, ← HQN.out, Nat.mod_add_mod]
          have e3 : IntKind.i64.wrap ((i : Int) + 1 + 1) = (i : Int) + 1 + 1 := IntWalk.i64_in _ (by omega)
          have e4 : ((i : Int) + 1 + 1).tmod (n : Int) = (rn : Int) := by rw [Int.tmod_eq_emod_of_nonneg (by omega), ← hrn2]; rfl
          have e4b : ((i : Int) + 1 + 1) % (n : Int) = (rn : Int) := by rw [← hrn2]; rfl
          obtain ⟨xa, xb⟩ := HCE.out rn vv.1 (by rw [List.getElem?_map, m1]; rfl)
          replace xa := (HII.out.grw.cell (p := ⟨b, off + rn * 2, none⟩) hbl).trans xa
          replace xb := (HII.out.grw.cell (p := ⟨b, off + rn * 2 + 1, none⟩) hbl).trans xb
          have hhg : 0 ≤ y.2.1 ∧ y.2.1 < 4 := (crk_iff.1 (m5 0 m4)).1
          have hhr : 0 ≤ l.2.1 ∧ l.2.1 < 4 := (crk_iff.1 (HK5.out 0 k4)).1
          have hdir : (sgI (vv.1.1 - y.1.1), sgI (vv.1.2 - y.1.2)) = dvec y.2.1 := by rw [m3]; exact dir_leg m4 hhg
          have hny : near5 y.1 := (crk_near HS.out (m5 0 m4)).1
          have hnz : near5 vv.1 := by
            have := (crk_near HS.out (m5 (y.2.2 - 1) (by omega))).2
            have e : fromP y.2.1 (stepN y.2.1 (y.2.2 - 1) y.1) = endL y := by
              obtain ⟨m, hm⟩ : ∃ m, y.2.2 = m + 1 := ⟨y.2.2 - 1, by omega⟩
              unfold endL; rw [hm]; rfl
            rw [e, ← m3] at this
            exact this
          have hny6 : near6 p := by rw [HPY.out]; unfold near5 at hny; unfold near6; omega
          have hnz6 : near6 vv.1 := by unfold near5 at hnz; unfold near6; omega
          have HNY := Lib.hid hny
          rw [← HPY.out] at hdir
          have HDR := Lib.hid hdir
          have HNY6 := Lib.hid hny6
          have HNZ6 := Lib.hid hnz6
          clear hne hrn hrn2 m1 m3 m5 m6 hdir hny hnz hny6 hnz6
          go_wp2_with fail
          obtain ⟨Wa, hWa⟩ : ∃ Wa, wr.drew = Wa := ⟨_, rfl⟩
          have hba : Below wr.heap.size wr Wa := by rw [← hWa]; exact (Below.refl _ _).drew
          rw [hWa]
          clear hWa
          have hblr2 : b < Wa.heap.size := Nat.lt_of_lt_of_le hblr hba.size
          replace xa := (hba.cell (p := ⟨b, off + rn * 2, none⟩) hblr).trans xa
          replace xb := (hba.cell (p := ⟨b, off + rn * 2 + 1, none⟩) hblr).trans xb
          replace va := (hba.cell (p := ⟨b, off + qn * 2, none⟩) hblr).trans va
          replace vb := (hba.cell (p := ⟨b, off + qn * 2 + 1, none⟩) hblr).trans vb
          refine wp_region_held_drew (S := fun w' => Below Wa.heap.size Wa w') (by kernel_rfl) ((Below.refl _ _).drew) (fun hHeld => ?_)
          try simp only [List.size_toArray, List.length_cons, List.length_nil, Nat.zero_add, Nat.reduceAdd, List.replicate, Array.replicate]
          refine wpAnyH_take (i := 0) (v := ?_) rfl (by kernel_rfl) (by kernel_rfl) (by kernel_rfl) (fun _ _ _ h => h) (Or.inl ⟨by kernel_rfl, ?_⟩) (by assumption) ?_
          rotate_left
          · (intro w' hSw; have s0 := (hSw.cell (p := ⟨b, off + rn * 2, none⟩) hblr2).trans xa; have s1 := (hSw.cell (p := ⟨b, off + rn * 2 + 1, none⟩) hblr2).trans xb; have s2 := (hSw.cell (p := ⟨b, off + qn * 2, none⟩) hblr2).trans va; have s3 := (hSw.cell (p := ⟨b, off + qn * 2 + 1, none⟩) hblr2).trans vb; go_simp; try with_reducible rfl)
          try simp only [List.getElem_toArray, List.getElem_cons_succ, List.getElem_cons_zero, Act.put, List.setIfInBounds_toArray, List.set_cons_zero, List.set_cons_succ]
          refine wpAnyH_take (i := 1) (v := ?_) rfl (by kernel_rfl) (by kernel_rfl) (by kernel_rfl) (fun _ _ _ h => h) (Or.inl ⟨by kernel_rfl, ?_⟩) (by assumption) ?_
          rotate_left
          · (intro w' hSw; have s0 := (hSw.cell (p := ⟨b, off + rn * 2, none⟩) hblr2).trans xa; have s1 := (hSw.cell (p := ⟨b, off + rn * 2 + 1, none⟩) hblr2).trans xb; have s2 := (hSw.cell (p := ⟨b, off + qn * 2, none⟩) hblr2).trans va; have s3 := (hSw.cell (p := ⟨b, off + qn * 2 + 1, none⟩) hblr2).trans vb; go_simp; try with_reducible rfl)
          try simp only [List.getElem_toArray, List.getElem_cons_succ, List.getElem_cons_zero, Act.put, List.setIfInBounds_toArray, List.set_cons_zero, List.set_cons_succ]
          refine wpAnyH_take (i := 2) (v := ?_) rfl (by kernel_rfl) (by kernel_rfl) (by kernel_rfl) (fun _ _ _ h => h) (Or.inl ⟨by kernel_rfl, ?_⟩) (by assumption) ?_
          rotate_left
          · (intro w' hSw; have s0 := (hSw.cell (p := ⟨b, off + rn * 2, none⟩) hblr2).trans xa; have s1 := (hSw.cell (p := ⟨b, off + rn * 2 + 1, none⟩) hblr2).trans xb; have s2 := (hSw.cell (p := ⟨b, off + qn * 2, none⟩) hblr2).trans va; have s3 := (hSw.cell (p := ⟨b, off + qn * 2 + 1, none⟩) hblr2).trans vb; go_simp; try with_reducible rfl)
          try simp only [List.getElem_toArray, List.getElem_cons_succ, List.getElem_cons_zero, Act.put, List.setIfInBounds_toArray, List.set_cons_zero, List.set_cons_succ]
          refine wpAnyH_take (i := 3) (v := ?_) rfl (by kernel_rfl) (by kernel_rfl) (by kernel_rfl) (fun _ _ _ h => h) (Or.inl ⟨by kernel_rfl, ?_⟩) (by assumption) ?_
          rotate_left
          · (intro w' hSw; have s0 := (hSw.cell (p := ⟨b, off + rn * 2, none⟩) hblr2).trans xa; have s1 := (hSw.cell (p := ⟨b, off + rn * 2 + 1, none⟩) hblr2).trans xb; have s2 := (hSw.cell (p := ⟨b, off + qn * 2, none⟩) hblr2).trans va; have s3 := (hSw.cell (p := ⟨b, off + qn * 2 + 1, none⟩) hblr2).trans vb; go_simp; try with_reducible rfl)
          try simp only [List.getElem_toArray, List.getElem_cons_succ, List.getElem_cons_zero, Act.put, List.setIfInBounds_toArray, List.set_cons_zero, List.set_cons_succ]
          refine wpAnyH_take (i := 4) (v := ?_) rfl (by kernel_rfl) (by kernel_rfl) (by kernel_rfl) (fun _ _ _ h => h) (Or.inl ⟨by kernel_rfl, ?_⟩) (by assumption) ?_
          rotate_left
          · (intro w' hSw; have s0 := (hSw.cell (p := ⟨b, off + rn * 2, none⟩) hblr2).trans xa; have s1 := (hSw.cell (p := ⟨b, off + rn * 2 + 1, none⟩) hblr2).trans xb; have s2 := (hSw.cell (p := ⟨b, off + qn * 2, none⟩) hblr2).trans va; have s3 := (hSw.cell (p := ⟨b, off + qn * 2 + 1, none⟩) hblr2).trans vb; go_simp; try with_reducible rfl)
          try simp only [List.getElem_toArray, List.getElem_cons_succ, List.getElem_cons_zero, Act.put, List.setIfInBounds_toArray, List.set_cons_zero, List.set_cons_succ]
          refine wpAnyH_take (i := 5) (v := ?_) rfl (by kernel_rfl) (by kernel_rfl) (by kernel_rfl) (fun _ _ _ h => h) (Or.inl ⟨by kernel_rfl, ?_⟩) (by assumption) ?_
          rotate_left
          · (intro w' hSw; have s0 := (hSw.cell (p := ⟨b, off + rn * 2, none⟩) hblr2).trans xa; have s1 := (hSw.cell (p := ⟨b, off + rn * 2 + 1, none⟩) hblr2).trans xb; have s2 := (hSw.cell (p := ⟨b, off + qn * 2, none⟩) hblr2).trans va; have s3 := (hSw.cell (p := ⟨b, off + qn * 2 + 1, none⟩) hblr2).trans vb; go_simp; try with_reducible rfl)
          try simp only [List.getElem_toArray, List.getElem_cons_succ, List.getElem_cons_zero, Act.put, List.setIfInBounds_toArray, List.set_cons_zero, List.set_cons_succ]
          refine wpAnyH_take (i := 6) (v := ?_) rfl (by kernel_rfl) (by kernel_rfl) (by kernel_rfl) (fun _ _ _ h => h) (Or.inl ⟨by kernel_rfl, ?_⟩) (by assumption) ?_
          rotate_left
          · (intro w' hSw; have s0 := (hSw.cell (p := ⟨b, off + rn * 2, none⟩) hblr2).trans xa; have s1 := (hSw.cell (p := ⟨b, off + rn * 2 + 1, none⟩) hblr2).trans xb; have s2 := (hSw.cell (p := ⟨b, off + qn * 2, none⟩) hblr2).trans va; have s3 := (hSw.cell (p := ⟨b, off + qn * 2 + 1, none⟩) hblr2).trans vb; go_simp; try with_reducible rfl)
          try simp only [List.getElem_toArray, List.getElem_cons_succ, List.getElem_cons_zero, Act.put, List.setIfInBounds_toArray, List.set_cons_zero, List.set_cons_succ]
          refine wpAnyH_take (i := 7) (v := ?_) rfl (by kernel_rfl) (by kernel_rfl) (by kernel_rfl) (fun _ _ _ h => h) (Or.inl ⟨by kernel_rfl, ?_⟩) (by assumption) ?_
          rotate_left
          · (intro w' hSw; have s0 := (hSw.cell (p := ⟨b, off + rn * 2, none⟩) hblr2).trans xa; have s1 := (hSw.cell (p := ⟨b, off + rn * 2 + 1, none⟩) hblr2).trans xb; have s2 := (hSw.cell (p := ⟨b, off + qn * 2, none⟩) hblr2).trans va; have s3 := (hSw.cell (p := ⟨b, off + qn * 2 + 1, none⟩) hblr2).trans vb; go_simp; try with_reducible rfl)
          try simp only [List.getElem_toArray, List.getElem_cons_succ, List.getElem_cons_zero, Act.put, List.setIfInBounds_toArray, List.set_cons_zero, List.set_cons_succ]
          refine wpAnyH_take (i := 8) (v := ?_) rfl (by kernel_rfl) (by kernel_rfl) (by kernel_rfl) (fun _ _ _ h => h) (Or.inl ⟨by kernel_rfl, ?_⟩) (by assumption) ?_
          rotate_left
          · (intro w' hSw; have s0 := (hSw.cell (p := ⟨b, off + rn * 2, none⟩) hblr2).trans xa; have s1 := (hSw.cell (p := ⟨b, off + rn * 2 + 1, none⟩) hblr2).trans xb; have s2 := (hSw.cell (p := ⟨b, off + qn * 2, none⟩) hblr2).trans va; have s3 := (hSw.cell (p := ⟨b, off + qn * 2 + 1, none⟩) hblr2).trans vb; go_simp; try with_reducible rfl)
          try simp only [List.getElem_toArray, List.getElem_cons_succ, List.getElem_cons_zero, Act.put, List.setIfInBounds_toArray, List.set_cons_zero, List.set_cons_succ]
          refine wpAnyH_take (i := 9) (v := ?_) rfl (by kernel_rfl) (by kernel_rfl) (by kernel_rfl) (fun _ _ _ h => h) (Or.inl ⟨by kernel_rfl, ?_⟩) (by assumption) ?_
          rotate_left
          · (intro w' hSw; have s0 := (hSw.cell (p := ⟨b, off + rn * 2, none⟩) hblr2).trans xa; have s1 := (hSw.cell (p := ⟨b, off + rn * 2 + 1, none⟩) hblr2).trans xb; have s2 := (hSw.cell (p := ⟨b, off + qn * 2, none⟩) hblr2).trans va; have s3 := (hSw.cell (p := ⟨b, off + qn * 2 + 1, none⟩) hblr2).trans vb; go_simp; try with_reducible rfl)
          try simp only [List.getElem_toArray, List.getElem_cons_succ, List.getElem_cons_zero, Act.put, List.setIfInBounds_toArray, List.set_cons_zero, List.set_cons_succ]
          refine wpAnyH_take (i := 10) (v := ?_) rfl (by kernel_rfl) (by kernel_rfl) (by kernel_rfl) (fun _ _ _ h => h) (Or.inl ⟨by kernel_rfl, ?_⟩) (by assumption) ?_
          rotate_left
          · (intro w' hSw; have s0 := (hSw.cell (p := ⟨b, off + rn * 2, none⟩) hblr2).trans xa; have s1 := (hSw.cell (p := ⟨b, off + rn * 2 + 1, none⟩) hblr2).trans xb; have s2 := (hSw.cell (p := ⟨b, off + qn * 2, none⟩) hblr2).trans va; have s3 := (hSw.cell (p := ⟨b, off + qn * 2 + 1, none⟩) hblr2).trans vb; go_simp; try with_reducible rfl)
          try simp only [List.getElem_toArray, List.getElem_cons_succ, List.getElem_cons_zero, Act.put, List.setIfInBounds_toArray, List.set_cons_zero, List.set_cons_succ]
          refine wpAnyH_take (i := 11) (v := ?_) rfl (by kernel_rfl) (by kernel_rfl) (by kernel_rfl) (fun _ _ _ h => h) (Or.inl ⟨by kernel_rfl, ?_⟩) (by assumption) ?_
          rotate_left
          · (intro w' hSw; have s0 := (hSw.cell (p := ⟨b, off + rn * 2, none⟩) hblr2).trans xa; have s1 := (hSw.cell (p := ⟨b, off + rn * 2 + 1, none⟩) hblr2).trans xb; have s2 := (hSw.cell (p := ⟨b, off + qn * 2, none⟩) hblr2).trans va; have s3 := (hSw.cell (p := ⟨b, off + qn * 2 + 1, none⟩) hblr2).trans vb; go_simp; try with_reducible rfl)
          try simp only [List.getElem_toArray, List.getElem_cons_succ, List.getElem_cons_zero, Act.put, List.setIfInBounds_toArray, List.set_cons_zero, List.set_cons_succ]
          refine wpAnyH_take (i := 12) (v := ?_) rfl (by kernel_rfl) (by kernel_rfl) (by kernel_rfl) (fun _ _ _ h => h) (Or.inl ⟨by kernel_rfl, ?_⟩) (by assumption) ?_
          rotate_left
          · (intro w' hSw; have s0 := (hSw.cell (p := ⟨b, off + rn * 2, none⟩) hblr2).trans xa; have s1 := (hSw.cell (p := ⟨b, off + rn * 2 + 1, none⟩) hblr2).trans xb; have s2 := (hSw.cell (p := ⟨b, off + qn * 2, none⟩) hblr2).trans va; have s3 := (hSw.cell (p := ⟨b, off + qn * 2 + 1, none⟩) hblr2).trans vb; go_simp; try with_reducible rfl)
          try simp only [List.getElem_toArray, List.getElem_cons_succ, List.getElem_cons_zero, Act.put, List.setIfInBounds_toArray, List.set_cons_zero, List.set_cons_succ]
          refine wpAnyH_take (i := 13) (v := ?_) rfl (by kernel_rfl) (by kernel_rfl) (by kernel_rfl) (fun _ _ _ h => h) (Or.inl ⟨by kernel_rfl, ?_⟩) (by assumption) ?_
          rotate_left
          · (intro w' hSw; have s0 := (hSw.cell (p := ⟨b, off + rn * 2, none⟩) hblr2).trans xa; have s1 := (hSw.cell (p := ⟨b, off + rn * 2 + 1, none⟩) hblr2).trans xb; have s2 := (hSw.cell (p := ⟨b, off + qn * 2, none⟩) hblr2).trans va; have s3 := (hSw.cell (p := ⟨b, off + qn * 2 + 1, none⟩) hblr2).trans vb; go_simp; try with_reducible rfl)
          try simp only [List.getElem_toArray, List.getElem_cons_succ, List.getElem_cons_zero, Act.put, List.setIfInBounds_toArray, List.set_cons_zero, List.set_cons_succ]
          refine wpAnyH_take (i := 14) (v := ?_) rfl (by kernel_rfl) (by kernel_rfl) (by kernel_rfl) (fun _ _ _ h => h) (Or.inl ⟨by kernel_rfl, ?_⟩) (by assumption) ?_
          rotate_left
          · (intro w' hSw; have s0 := (hSw.cell (p := ⟨b, off + rn * 2, none⟩) hblr2).trans xa; have s1 := (hSw.cell (p := ⟨b, off + rn * 2 + 1, none⟩) hblr2).trans xb; have s2 := (hSw.cell (p := ⟨b, off + qn * 2, none⟩) hblr2).trans va; have s3 := (hSw.cell (p := ⟨b, off + qn * 2 + 1, none⟩) hblr2).trans vb; go_simp; try with_reducible rfl)
          try simp only [List.getElem_toArray, List.getElem_cons_succ, List.getElem_cons_zero, Act.put, List.setIfInBounds_toArray, List.set_cons_zero, List.set_cons_succ]
          clear hHeld
          apply cut2 (F := fun g W' => Wa.heap.size ≤ g ∧ Blk W' g 60 #[.int .i64 (dvec y.2.1).1, .int .i64 (dvec y.2.1).2] ∧ Below Wa.heap.size Wa W')
          case main =>
            intro key
            have hHeld : True := trivial
            refine wpAnyH_ready (rs := [15, 16]) (by kernel_rfl) (by simp) (AllReadyH.cons rfl (fun K hK => ?_) (AllReadyH.cons rfl (fun K hK => ?_) AllReadyH.nil))
            · go_simp
              (go_at_call 74; (with_reducible refine (Kin.callK (W := Wa) gRw (direction_any p vv.1 _ HNY6.out HNZ6.out)).mono ?_); rintro e w' ⟨z2, rfl, hz2, rfl⟩; skip)
              simp only []
              refine hK.out _ _ (z2.2) (fun hHeld2 => ?_)
              clear hK hHeld
              have hHeld := hHeld2
              clear hHeld2 K
              try simp only [List.getElem_toArray, List.getElem_cons_succ, List.getElem_cons_zero, Act.put, List.setIfInBounds_toArray, List.set_cons_zero, List.set_cons_succ]
              ((first | refine wpAnyH_ready (rs := [16]) (by kernel_rfl) (by simp) (AllReadyH.cons rfl (fun K hK => ?_) AllReadyH.nil)) <;> (go_simp; refine hK.out _ _ gRw (fun hHeld2 => ?_); clear hK hHeld; have hHeld := hHeld2; clear hHeld2 K; try simp only [List.getElem_toArray, List.getElem_cons_succ, List.getElem_cons_zero, Act.put, List.setIfInBounds_toArray, List.set_cons_zero, List.set_cons_succ]))
              ((first | refine wpAnyH_ready (rs := [17]) (by kernel_rfl) (by simp) (AllReadyH.cons rfl (fun K hK => ?_) AllReadyH.nil)) <;> (go_simp; refine hK.out _ _ gRw (fun hHeld2 => ?_); clear hK hHeld; have hHeld := hHeld2; clear hHeld2 K; try simp only [List.getElem_toArray, List.getElem_cons_succ, List.getElem_cons_zero, Act.put, List.setIfInBounds_toArray, List.set_cons_zero, List.set_cons_succ]))
              refine wpAnyH_done (by kernel_rfl) ?_ _
              clear hHeld
              obtain ⟨G, hG⟩ : ∃ G, z2.1.heap.size = G := ⟨_, rfl⟩
              obtain ⟨W4, hW4⟩ : ∃ W4, z2.1.alloc (.cells #[.int .i64 (sgI (vv.1.1 - p.1)), .int .i64 (sgI (vv.1.2 - p.2))] 60) = W4 := ⟨_, rfl⟩
              have hb : Blk W4 G 60 #[.int .i64 (dvec y.2.1).1, .int .i64 (dvec y.2.1).2] := by
                rw [← hW4, ← hG, ← HDR.out]; exact Blk.new _ _ _
              have hz : Wa.heap.size ≤ G := by rw [← hG]; exact z2.2.size
              have hbw : Below Wa.heap.size Wa W4 := by rw [← hW4]; exact z2.2.alloc z2.2.size _
              rw [hG, hW4]
              exact key G W4 ⟨hz, hb, hbw⟩
            · go_simp
              refine hK.out _ _ gRw (fun hHeld2 => ?_)
              clear hK hHeld
              have hHeld := hHeld2
              clear hHeld2 K
              try simp only [List.getElem_toArray, List.getElem_cons_succ, List.getElem_cons_zero, Act.put, List.setIfInBounds_toArray, List.set_cons_zero, List.set_cons_succ]
              refine wpAnyH_ready (rs := [15]) (by kernel_rfl) (by simp) (AllReadyH.cons rfl (fun K hK => ?_) AllReadyH.nil)
              go_simp
              obtain ⟨W3, hW3⟩ : ∃ W3, (Wa.alloc (.cells #[.int .i64 0, .int .i64 0] 60)).drew = W3 := ⟨_, rfl⟩
              rw [hW3]
              have hb3 : Blk W3 Wa.heap.size 60 #[.int .i64 0, .int .i64 0] := by rw [← hW3]; exact (Blk.new Wa _ _).below (Below.refl _ _).drew
              have hz3 : Below Wa.heap.size Wa W3 := by rw [← hW3]; exact gRw
              clear hW3
              (go_at_call 74; (refine (direction_any p vv.1 _ HNY6.out HNZ6.out).mono ?_); rintro e W4 ⟨rfl, hb4⟩)
              simp only []
              have hb5 := hb3.below hb4
              have c5 : W4.cell? ⟨Wa.heap.size, 0, none⟩ = some (.int .i64 0) := hb5.cell 0
              have c6 : W4.cell? ⟨Wa.heap.size, 1, none⟩ = some (.int .i64 0) := hb5.cell 1
              have f5 := hb5.frozen 0
              have f6 := hb5.frozen 1
              have l5 := hb5.lt
              have hz4 : Below Wa.heap.size Wa W4 := hz3.trans (hb4.mono hz3.size)
              refine hK.out _ _ (hz4) (fun hHeld2 => ?_)
              clear hK hHeld
              have hHeld := hHeld2
              clear hHeld2 K
              try simp only [List.getElem_toArray, List.getElem_cons_succ, List.getElem_cons_zero, Act.put, List.setIfInBounds_toArray, List.set_cons_zero, List.set_cons_succ]
              refine wpAnyH_ready (rs := [17]) (by kernel_rfl) (by simp) (AllReadyH.cons rfl (fun K hK => ?_) AllReadyH.nil)
              go_simp
              refine hK.out _ _ ((hz4.setCell (p := ⟨Wa.heap.size, 0, none⟩) (Nat.le_refl _) _).setCell (p := ⟨Wa.heap.size, 1, none⟩) (Nat.le_refl _) _) (fun hHeld2 => ?_)
              clear hK hHeld
              have hHeld := hHeld2
              clear hHeld2 K
              try simp only [List.getElem_toArray, List.getElem_cons_succ, List.getElem_cons_zero, Act.put, List.setIfInBounds_toArray, List.set_cons_zero, List.set_cons_succ]
              refine wpAnyH_done (by kernel_rfl) ?_ _
              clear hHeld
              obtain ⟨G, hG⟩ : ∃ G, Wa.heap.size = G := ⟨_, rfl⟩
              rw [hG] at hb5 ⊢
              obtain ⟨W5, hW5⟩ : ∃ W5, (W4.setCell ⟨G, 0, none⟩ (.int .i64 (sgI (vv.1.1 - p.1)))).setCell ⟨G, 1, none⟩ (.int .i64 (sgI (vv.1.2 - p.2))) = W5 := ⟨_, rfl⟩
              have hb : Blk W5 G 60 #[.int .i64 (dvec y.2.1).1, .int .i64 (dvec y.2.1).2] := by
                rw [← hW5, ← HDR.out]; exact (hb5.set_ 0 _).set_ 1 _
              have hbw : Below Wa.heap.size Wa W5 := by rw [← hW5]; exact (hz4.setCell (p := ⟨G, 0, none⟩) (Nat.le_of_eq hG) _).setCell (p := ⟨G, 1, none⟩) (Nat.le_of_eq hG) _
              rw [hW5]
              exact key G W5 ⟨Nat.le_of_eq hG, hb, hbw⟩
          case pf =>
            rintro gn Wb ⟨hgn, vn, hbb⟩
            have hbr : Below wr.heap.size wr Wb := hba.trans (hbb.mono hba.size)
            have vpb := HII.out.vp.below hbr
            have vdb := HII.out.vd.below hbr
            have owb := own_below HII.out.own hbr
            have hwb := HII.out.grw.trans (hbr.mono HII.out.grw.size)
            rw [HP.out] at vpb
            have n_0 := vn.cell 0
            have n_1 := vn.cell 1
            have n_l := vn.lt
            have d_0 := vdb.cell 0
            have d_1 := vdb.cell 1
            have d_l := vdb.lt
            have d_f0 := vdb.frozen 0
            have d_f1 := vdb.frozen 1
            have p_0 := vpb.cell 0
            have p_1 := vpb.cell 1
            have p_l := vpb.lt
            have w1 := dw_1 hhr hhg
            have w2 := dw_2 hhr hhg
            have w3 := dw_3 hhr hhg
            have hcr := right_cross hhr hhg
            have HBR := Lib.hid hbr
            have HVP := Lib.hid vpb
            have HVD := Lib.hid vdb
            have HVN := Lib.hid vn
            have HOW := Lib.hid owb
            have HWB := Lib.hid hwb
            have HG := Lib.hid hgn
            have HGB := Lib.hid (show Wa.heap.size ≤ gn from hgn)
            clear hbr vpb vdb vn owb hwb hgn hbb hba xa xb va vb hblr hblr2
            have hjk : (l.1, l.2.1, j) = l := by
              have := HJN.out
              rw [show j = l.2.2 from by omega]
            have hraw : rawTo L (i + 1) = (rawTo L i ++ legR (l.1, l.2.1, j)) ++ turnR l y := by
              rw [rawTo_succ, legW_is HLI.out (by rw [HLN.out, HQN.out]; exact HK1.out), hjk, List.append_assoc]
            have HRW := Lib.hid hraw
            clear hraw hjk
            by_cases hright : y.2.1 = rt l.2.1
            · have hc := hcr.2 hright
              have HRT := Lib.hid hright
              have hny6 := HNY6.out
              have hdv := dvec_in l.2.1
              unfold near6 at hny6
              have hlcb : -6002 ≤ (lcP p l.2.1).1 ∧ (lcP p l.2.1).1 ≤ 6002 ∧ -6002 ≤ (lcP p l.2.1).2 ∧ (lcP p l.2.1).2 ≤ 6002 := by
                unfold lcP
                split
                · simp only; omega
                · split
                  · simp only; omega
                  · split
                    · simp only; omega
                    · simp only; omega
              have ew1 : IntKind.i64.wrap (p.1 - (dvec l.2.1).1) = p.1 - (dvec l.2.1).1 := IntWalk.i64_in _ (by omega)
              have ew2 : IntKind.i64.wrap (p.2 - (dvec l.2.1).2) = p.2 - (dvec l.2.1).2 := IntWalk.i64_in _ (by omega)
              have ew3 : IntKind.i64.wrap ((lcP p l.2.1).1 - (dvec l.2.1).1 + (dvec l.2.1).1) = (lcP p l.2.1).1 := by rw [Int.sub_add_cancel]; exact IntWalk.i64_in _ (by omega)
              have ew4 : IntKind.i64.wrap ((lcP p l.2.1).2 - (dvec l.2.1).2 + (dvec l.2.1).2) = (lcP p l.2.1).2 := by rw [Int.sub_add_cancel]; exact IntWalk.i64_in _ (by omega)
              have ew5 : IntKind.i64.wrap (lcP p l.2.1).1 = (lcP p l.2.1).1 := IntWalk.i64_in _ (by omega)
              have ew6 : IntKind.i64.wrap (lcP p l.2.1).2 = (lcP p l.2.1).2 := IntWalk.i64_in _ (by omega)
              have hpd : near5 (p.1 - (dvec l.2.1).1, p.2 - (dvec l.2.1).2) → near6 (p.1 - (dvec l.2.1).1, p.2 - (dvec l.2.1).2) := fun h => by unfold near5 at h; unfold near6; omega
              have hpd6 : near6 (p.1 - (dvec l.2.1).1, p.2 - (dvec l.2.1).2) := by
                have := HNY.out
                rw [← HPY.out] at this
                unfold near5 at this
                unfold near6
                simp only
                omega
              clear hcr hright hny6 hdv hpd hlcb
              go_wp2_with fail
              (go_at_call 76; (refine (leftW_any (p.1 - (dvec l.2.1).1, p.2 - (dvec l.2.1).2) l.2.1 _ hpd6 hhr).mono ?_); rintro e W4 ⟨rfl, hb4⟩)
              simp only []
              rw [lc_go]
              have vn4 := HVN.out.below hb4
              have vp4 := HVP.out.below hb4
              have vd4 := HVD.out.below hb4
              have ow4 := own_below HOW.out hb4
              have hw4 := HWB.out.trans (hb4.mono HWB.out.size)
              have HN4 := Lib.hid vn4
              have HP4 := Lib.hid vp4
              have HD4 := Lib.hid vd4
              have HO4 := Lib.hid ow4
              have HW4 := Lib.hid hw4
              have n4_0 := vn4.cell 0
              have n4_1 := vn4.cell 1
              have n4_l := vn4.lt
              have d4_0 := vd4.cell 0
              have d4_1 := vd4.cell 1
              have d4_l := vd4.lt
              clear vn4 vp4 vd4 ow4 hw4 n_0 n_1 n_l d_0 d_1 d_l d_f0 d_f1 p_0 p_1 p_l w1 w2 w3 hc
              go_wp2_with fail
              obtain ⟨Wc, hWc⟩ : ∃ Wc, W4.alloc (.cells #[.int .i64 ((lcP p l.2.1).1 - (dvec l.2.1).1), .int .i64 ((lcP p l.2.1).2 - (dvec l.2.1).2)] 47) = Wc := ⟨_, rfl⟩
              have hbc : Below W4.heap.size W4 Wc := by rw [← hWc]; exact (Below.refl _ _).alloc (Nat.le_refl _) _
              rw [hWc]
              clear hWc n4_0 n4_1 n4_l d4_0 d4_1 d4_l ew1 ew2 ew3 ew4 ew5 ew6
              obtain ⟨D, hD⟩ : ∃ D, ded (rawTo L i ++ legR (l.1, l.2.1, j)) = D := ⟨_, rfl⟩
              have hDq := HII.out.hq
              have owc := own_below HO4.out hbc
              rw [hD] at hDq owc
              have hq2 : q2 ≤ 1000000 := by
                have h1 := raw_small HL.out HLI.out (j := j) (by have := HJN.out; omega)
                rw [hD, hDq] at h1
                have := HLE.out
                omega
              have vnc := HN4.out.below hbc
              have hbase : gd + 1 ≤ Wc.heap.size := by have := (HD4.out.below hbc).lt; omega
              have HD := Lib.hid hD
              have HOC := Lib.hid owc
              have HNC := Lib.hid vnc
              have HBC := Lib.hid hbc
              clear hD hbc
              (go_at_call 75; (refine (addW_any (gd + 1) A2 q2 c2 D (lcP p l.2.1) Wc owc hDq hq2 hbase).mono ?_); rintro e W6 ⟨v, rfl, ho6, hg6, hbel6, hat6⟩)
              simp only []
              obtain ⟨A6, c6, rfl⟩ := own_slc ho6
              obtain ⟨q6, hq6⟩ : ∃ q6, (addP D (lcP p l.2.1)).length = q6 := ⟨_, rfl⟩
              have hgs : w.heap.size < gd + 1 := by omega
              have vn6 := HNC.out.grown hg6 (fun e => own_ne HOC.out HNC.out (by decide) e.symm)
              have vp6 : Blk W6 w.heap.size 60 #[.int .i64 p.1, .int .i64 p.2] := (hbel6.block _ hgs).trans (HP4.out.below HBC.out)
              have vd6 : Blk W6 gd 60 #[.int .i64 (dvec l.2.1).1, .int .i64 (dvec l.2.1).2] := (hbel6.block _ (Nat.lt_succ_self _)).trans (HD4.out.below HBC.out)
              have n_0 := vn6.cell 0
              have n_1 := vn6.cell 1
              have n_l := vn6.lt
              have d_0 := vd6.cell 0
              have d_1 := vd6.cell 1
              have d_f0 := vd6.frozen 0
              have d_f1 := vd6.frozen 1
              have d_l := vd6.lt
              have hw6 := (HW4.out.trans (HBC.out.mono HW4.out.size)).trans (hbel6.mono (by omega))
              have hraw2 : ded (rawTo L (i + 1)) = addP D (lcP p l.2.1) := by
                rw [HRW.out]; unfold turnR; rw [if_pos HRT.out, ded_snoc, HD.out, HPY.out, HK3.out]
              have HR2 := Lib.hid hraw2
              have HO6 := Lib.hid ho6
              have HP6 := Lib.hid vp6
              have HD6 := Lib.hid vd6
              have HW6 := Lib.hid hw6
              have HQ6 := Lib.hid hq6
              rw [hq6]
              have hI : WcI w w.heap.size gd ((W6.setCell ⟨gd, 0, none⟩ (.int .i64 (dvec y.2.1).1)).setCell ⟨gd, 1, none⟩ (.int .i64 (dvec y.2.1).2)) y.1 y.2.1 A6 q6 c6 (rawTo L (i + 1)) := by
                have hne : w.heap.size ≠ gd := by omega
                refine ⟨⟨Nat.le_refl _, hgd2⟩, ?_, (HD6.out.set_ 0 _).set_ 1 _, ?_, by rw [HR2.out]; exact HQ6.out, ?_⟩
                · rw [← HPY.out]; exact (HP6.out.far (p := ⟨gd, 0, none⟩) hne _).far (p := ⟨gd, 1, none⟩) hne _
                · rw [HR2.out]
                  have h1 := HO6.out
                  rw [HQ6.out] at h1
                  have n1 := own_ne h1 HD6.out (by decide)
                  have g1 := grownBy_set (w := W6) (p := ⟨gd, 0, none⟩) (.int .i64 (dvec y.2.1).1)
                  have g2 := grownBy_set (w := W6.setCell ⟨gd, 0, none⟩ (.int .i64 (dvec y.2.1).1)) (p := ⟨gd, 1, none⟩) (.int .i64 (dvec y.2.1).2)
                  rw [HQ6.out]
                  exact (h1.kept g1 (.inr n1)).kept g2 (.inr n1)
                · exact (HW6.out.setCell (p := ⟨gd, 0, none⟩) (Nat.le_of_lt hgd2) _).setCell (p := ⟨gd, 1, none⟩) (Nat.le_of_lt hgd2) _
              have HIE := Lib.hid hI
              clear hI ho6 hg6 hbel6 hat6 vn6 vp6 vd6 hw6 hraw2 hq6 owc vnc hDq
              by_cases hlast : i + 1 = n
              · have hbn : (((i : Int) + 1) == (n : Int)) = true := by rw [beq_iff_eq]; omega
                have HLA := Lib.hid hlast
                clear hlast
                go_wp2_with fail
                obtain ⟨Wx, hWx⟩ : ∃ Wx, (W6.setCell ⟨gd, 0, none⟩ (.int .i64 (dvec y.2.1).1)).setCell ⟨gd, 1, none⟩ (.int .i64 (dvec y.2.1).2) = Wx := ⟨_, rfl⟩
                rw [hWx] at HIE ⊢
                clear hWx
                have hIx := HIE.out
                obtain ⟨D9, hD9⟩ : ∃ D9, ded (rawTo L (i + 1)) = D9 := ⟨_, rfl⟩
                have hX : walkL L = finP D9 := by unfold walkL; rw [HLN.out, ← HLA.out, hD9]
                have hox := hIx.own
                have hqx := hIx.hq
                rw [hD9] at hox hqx
                have hrd := Rd.own' encPt_len (by decide) hox
                obtain ⟨A9, cap9, e9, hcap9, hop9⟩ := hrd.open_
                rw [hqx] at e9 hcap9
                injection e9 with e91 e92 e93
                rw [← e93] at hcap9
                have HX9 := Lib.hid hX
                have HRD := Lib.hid hrd
                have HQX := Lib.hid hqx
                have HGR := Lib.hid hIx.grw
                have HFAR := Lib.hid (own_far hIx.own (Nat.le_of_lt (Nat.lt_succ_of_lt hgd2)))
                clear hX hox hIx hop9 e91 e92 e93
                by_cases hq1 : 1 < q6
                · obtain ⟨k, hk⟩ : ∃ k, q6 = k + 1 := ⟨q6 - 1, by omega⟩
                  obtain ⟨x0, hx0⟩ : ∃ x, D9[0]? = some x := ⟨_, List.getElem?_eq_getElem (by omega)⟩
                  obtain ⟨x1, hx1⟩ : ∃ x, D9[k]? = some x := ⟨_, List.getElem?_eq_getElem (by omega)⟩
                  obtain ⟨bq, oq, hAq, hbq, hcq⟩ := Rd.op hrd 0 x0 hx0
                  have r_0 : Wx.cell? ⟨bq, oq, none⟩ = some (.int .i64 x0.1) := by simpa using hcq 0 x0 hx0 0 _ rfl
                  have r_1 : Wx.cell? ⟨bq, oq + 1, none⟩ = some (.int .i64 x0.2) := by simpa using hcq 0 x0 hx0 1 _ rfl
                  have s_0 : Wx.cell? ⟨bq, oq + k * 2, none⟩ = some (.int .i64 x1.1) := hcq k x1 hx1 0 _ rfl
                  have s_1 : Wx.cell? ⟨bq, oq + k * 2 + 1, none⟩ = some (.int .i64 x1.2) := hcq k x1 hx1 1 _ rfl
                  have hq1i : (1 : Int) < (q6 : Int) := by omega
                  have hq0 : 0 < q6 := by omega
                  have hkq : k < q6 := by omega
                  have hkc : k ≤ c6 := by omega
                  have ek : IntKind.i64.wrap ((q6 : Int) - 1) = (k : Int) := by
                    rw [IntWalk.i64_in _ (by
                      have h1 := raw_le HL.out (i := L.length) (Nat.le_refl _)
                      have h2 := ded_le (rawTo L L.length)
                      have h3 := HLE.out
                      rw [HLN.out, ← HLA.out] at h1 h2
                      rw [hD9] at h2
                      omega)]; omega
                  have hhead : D9.head? = some x0 := by rw [List.head?_eq_getElem?]; exact hx0
                  have hlst : D9.getLast? = some x1 := by rw [List.getLast?_eq_getElem?, hqx, hk]; exact hx1
                  have HHD := Lib.hid hhead
                  have HLS := Lib.hid hlst
                  have HKK := Lib.hid hk
                  subst hAq
                  clear hcq hx0 hx1 hhead hlst hk hD9 hqx hrd
                  by_cases hc01 : x0 = x1
                  · have heq : ∀ w : World, (binOp .eql 47 (.agg #[.int .i64 x0.1, .int .i64 x0.2]) (.agg #[.int .i64 x1.1, .int .i64 x1.2])).run Tryz.prog w = .ok (.bool true) w := by rw [← hc01]; exact cellEq_yes x0
                    have HC01 := Lib.hid hc01
                    clear hc01
                    refine wp_region_held_drew (S := fun w' => Below Wx.heap.size Wx w') (by kernel_rfl) ((Below.refl _ _).drew) (fun hHeld => ?_)
                    try simp only [List.size_toArray, List.length_cons, List.length_nil, Nat.zero_add, Nat.reduceAdd, List.replicate, Array.replicate]
                    refine wpAnyH_take (i := 0) (v := ?_) rfl (by kernel_rfl) (by kernel_rfl) (by kernel_rfl) (fun _ _ _ h => h) (Or.inl ⟨by kernel_rfl, ?_⟩) (by assumption) ?_
                    rotate_left
                    · (intro w' hSw; have s0 := (hSw.cell (p := ⟨bq, oq, none⟩) hbq).trans r_0; have s1 := (hSw.cell (p := ⟨bq, oq + 1, none⟩) hbq).trans r_1; have s2 := (hSw.cell (p := ⟨bq, oq + k * 2, none⟩) hbq).trans s_0; have s3 := (hSw.cell (p := ⟨bq, oq + k * 2 + 1, none⟩) hbq).trans s_1; go_simp; try with_reducible rfl)
                    try simp only [List.getElem_toArray, List.getElem_cons_succ, List.getElem_cons_zero, Act.put, List.setIfInBounds_toArray, List.set_cons_zero, List.set_cons_succ]
                    refine wpAnyH_take (i := 1) (v := ?_) rfl (by kernel_rfl) (by kernel_rfl) (by kernel_rfl) (fun _ _ _ h => h) (Or.inl ⟨by kernel_rfl, ?_⟩) (by assumption) ?_
                    rotate_left
                    · (intro w' hSw; have s0 := (hSw.cell (p := ⟨bq, oq, none⟩) hbq).trans r_0; have s1 := (hSw.cell (p := ⟨bq, oq + 1, none⟩) hbq).trans r_1; have s2 := (hSw.cell (p := ⟨bq, oq + k * 2, none⟩) hbq).trans s_0; have s3 := (hSw.cell (p := ⟨bq, oq + k * 2 + 1, none⟩) hbq).trans s_1; go_simp; try with_reducible rfl)
                    try simp only [List.getElem_toArray, List.getElem_cons_succ, List.getElem_cons_zero, Act.put, List.setIfInBounds_toArray, List.set_cons_zero, List.set_cons_succ]
                    refine wpAnyH_take (i := 2) (v := ?_) rfl (by kernel_rfl) (by kernel_rfl) (by kernel_rfl) (fun _ _ _ h => h) (Or.inl ⟨by kernel_rfl, ?_⟩) (by assumption) ?_
                    rotate_left
                    · (intro w' hSw; have s0 := (hSw.cell (p := ⟨bq, oq, none⟩) hbq).trans r_0; have s1 := (hSw.cell (p := ⟨bq, oq + 1, none⟩) hbq).trans r_1; have s2 := (hSw.cell (p := ⟨bq, oq + k * 2, none⟩) hbq).trans s_0; have s3 := (hSw.cell (p := ⟨bq, oq + k * 2 + 1, none⟩) hbq).trans s_1; go_simp; try with_reducible rfl)
                    try simp only [List.getElem_toArray, List.getElem_cons_succ, List.getElem_cons_zero, Act.put, List.setIfInBounds_toArray, List.set_cons_zero, List.set_cons_succ]
                    refine wpAnyH_take (i := 3) (v := ?_) rfl (by kernel_rfl) (by kernel_rfl) (by kernel_rfl) (fun _ _ _ h => h) (Or.inl ⟨by kernel_rfl, ?_⟩) (by assumption) ?_
                    rotate_left
                    · (intro w' hSw; have s0 := (hSw.cell (p := ⟨bq, oq, none⟩) hbq).trans r_0; have s1 := (hSw.cell (p := ⟨bq, oq + 1, none⟩) hbq).trans r_1; have s2 := (hSw.cell (p := ⟨bq, oq + k * 2, none⟩) hbq).trans s_0; have s3 := (hSw.cell (p := ⟨bq, oq + k * 2 + 1, none⟩) hbq).trans s_1; go_simp; try with_reducible rfl)
                    try simp only [List.getElem_toArray, List.getElem_cons_succ, List.getElem_cons_zero, Act.put, List.setIfInBounds_toArray, List.set_cons_zero, List.set_cons_succ]
                    refine wpAnyH_take (i := 4) (v := ?_) rfl (by kernel_rfl) (by kernel_rfl) (by kernel_rfl) (fun _ _ _ h => h) (Or.inl ⟨by kernel_rfl, ?_⟩) (by assumption) ?_
                    rotate_left
                    · (intro w' hSw; have s0 := (hSw.cell (p := ⟨bq, oq, none⟩) hbq).trans r_0; have s1 := (hSw.cell (p := ⟨bq, oq + 1, none⟩) hbq).trans r_1; have s2 := (hSw.cell (p := ⟨bq, oq + k * 2, none⟩) hbq).trans s_0; have s3 := (hSw.cell (p := ⟨bq, oq + k * 2 + 1, none⟩) hbq).trans s_1; go_simp; try with_reducible rfl)
                    try simp only [List.getElem_toArray, List.getElem_cons_succ, List.getElem_cons_zero, Act.put, List.setIfInBounds_toArray, List.set_cons_zero, List.set_cons_succ]
                    refine wpAnyH_take (i := 5) (v := ?_) rfl (by kernel_rfl) (by kernel_rfl) (by kernel_rfl) (fun _ _ _ h => h) (Or.inl ⟨by kernel_rfl, ?_⟩) (by assumption) ?_
                    rotate_left
                    · (intro w' hSw; have s0 := (hSw.cell (p := ⟨bq, oq, none⟩) hbq).trans r_0; have s1 := (hSw.cell (p := ⟨bq, oq + 1, none⟩) hbq).trans r_1; have s2 := (hSw.cell (p := ⟨bq, oq + k * 2, none⟩) hbq).trans s_0; have s3 := (hSw.cell (p := ⟨bq, oq + k * 2 + 1, none⟩) hbq).trans s_1; go_simp; try with_reducible rfl)
                    try simp only [List.getElem_toArray, List.getElem_cons_succ, List.getElem_cons_zero, Act.put, List.setIfInBounds_toArray, List.set_cons_zero, List.set_cons_succ]
                    refine wpAnyH_take (i := 6) (v := ?_) rfl (by kernel_rfl) (by kernel_rfl) (by kernel_rfl) (fun _ _ _ h => h) (Or.inl ⟨by kernel_rfl, ?_⟩) (by assumption) ?_
                    rotate_left
                    · (intro w' hSw; have s0 := (hSw.cell (p := ⟨bq, oq, none⟩) hbq).trans r_0; have s1 := (hSw.cell (p := ⟨bq, oq + 1, none⟩) hbq).trans r_1; have s2 := (hSw.cell (p := ⟨bq, oq + k * 2, none⟩) hbq).trans s_0; have s3 := (hSw.cell (p := ⟨bq, oq + k * 2 + 1, none⟩) hbq).trans s_1; go_simp; try with_reducible rfl)
                    try simp only [List.getElem_toArray, List.getElem_cons_succ, List.getElem_cons_zero, Act.put, List.setIfInBounds_toArray, List.set_cons_zero, List.set_cons_succ]
                    refine wpAnyH_take (i := 7) (v := ?_) rfl (by kernel_rfl) (by kernel_rfl) (by kernel_rfl) (fun _ _ _ h => h) (Or.inl ⟨by kernel_rfl, ?_⟩) (by assumption) ?_
                    rotate_left
                    · (intro w' hSw; have s0 := (hSw.cell (p := ⟨bq, oq, none⟩) hbq).trans r_0; have s1 := (hSw.cell (p := ⟨bq, oq + 1, none⟩) hbq).trans r_1; have s2 := (hSw.cell (p := ⟨bq, oq + k * 2, none⟩) hbq).trans s_0; have s3 := (hSw.cell (p := ⟨bq, oq + k * 2 + 1, none⟩) hbq).trans s_1; go_simp; try with_reducible rfl)
                    try simp only [List.getElem_toArray, List.getElem_cons_succ, List.getElem_cons_zero, Act.put, List.setIfInBounds_toArray, List.set_cons_zero, List.set_cons_succ]
                    refine wpAnyH_take (i := 8) (v := ?_) rfl (by kernel_rfl) (by kernel_rfl) (by kernel_rfl) (fun _ _ _ h => h) (Or.inl ⟨by kernel_rfl, ?_⟩) (by assumption) ?_
                    rotate_left
                    · (intro w' hSw; have s0 := (hSw.cell (p := ⟨bq, oq, none⟩) hbq).trans r_0; have s1 := (hSw.cell (p := ⟨bq, oq + 1, none⟩) hbq).trans r_1; have s2 := (hSw.cell (p := ⟨bq, oq + k * 2, none⟩) hbq).trans s_0; have s3 := (hSw.cell (p := ⟨bq, oq + k * 2 + 1, none⟩) hbq).trans s_1; go_simp; try with_reducible rfl)
                    try simp only [List.getElem_toArray, List.getElem_cons_succ, List.getElem_cons_zero, Act.put, List.setIfInBounds_toArray, List.set_cons_zero, List.set_cons_succ]
                    refine wpAnyH_take (i := 9) (v := ?_) rfl (by kernel_rfl) (by kernel_rfl) (by kernel_rfl) (fun _ _ _ h => h) (Or.inl ⟨by kernel_rfl, ?_⟩) (by assumption) ?_
                    rotate_left
                    · (intro w' hSw; have s0 := (hSw.cell (p := ⟨bq, oq, none⟩) hbq).trans r_0; have s1 := (hSw.cell (p := ⟨bq, oq + 1, none⟩) hbq).trans r_1; have s2 := (hSw.cell (p := ⟨bq, oq + k * 2, none⟩) hbq).trans s_0; have s3 := (hSw.cell (p := ⟨bq, oq + k * 2 + 1, none⟩) hbq).trans s_1; go_simp; try with_reducible rfl)
                    try simp only [List.getElem_toArray, List.getElem_cons_succ, List.getElem_cons_zero, Act.put, List.setIfInBounds_toArray, List.set_cons_zero, List.set_cons_succ]
                    refine wpAnyH_take (i := 10) (v := ?_) rfl (by kernel_rfl) (by kernel_rfl) (by kernel_rfl) (fun _ _ _ h => h) (Or.inl ⟨by kernel_rfl, ?_⟩) (by assumption) ?_
                    rotate_left
                    · (intro w' hSw; have s0 := (hSw.cell (p := ⟨bq, oq, none⟩) hbq).trans r_0; have s1 := (hSw.cell (p := ⟨bq, oq + 1, none⟩) hbq).trans r_1; have s2 := (hSw.cell (p := ⟨bq, oq + k * 2, none⟩) hbq).trans s_0; have s3 := (hSw.cell (p := ⟨bq, oq + k * 2 + 1, none⟩) hbq).trans s_1; go_simp; try with_reducible rfl)
                    try simp only [List.getElem_toArray, List.getElem_cons_succ, List.getElem_cons_zero, Act.put, List.setIfInBounds_toArray, List.set_cons_zero, List.set_cons_succ]
                    refine wpAnyH_take (i := 11) (v := ?_) rfl (by kernel_rfl) (by kernel_rfl) (by kernel_rfl) (fun _ _ _ h => h) (Or.inl ⟨by kernel_rfl, ?_⟩) (by assumption) ?_
                    rotate_left
                    · (intro w' hSw; have s0 := (hSw.cell (p := ⟨bq, oq, none⟩) hbq).trans r_0; have s1 := (hSw.cell (p := ⟨bq, oq + 1, none⟩) hbq).trans r_1; have s2 := (hSw.cell (p := ⟨bq, oq + k * 2, none⟩) hbq).trans s_0; have s3 := (hSw.cell (p := ⟨bq, oq + k * 2 + 1, none⟩) hbq).trans s_1; go_simp; try with_reducible rfl)
                    try simp only [List.getElem_toArray, List.getElem_cons_succ, List.getElem_cons_zero, Act.put, List.setIfInBounds_toArray, List.set_cons_zero, List.set_cons_succ]
                    refine wpAnyH_take (i := 12) (v := ?_) rfl (by kernel_rfl) (by kernel_rfl) (by kernel_rfl) (fun _ _ _ h => h) (Or.inl ⟨by kernel_rfl, ?_⟩) (by assumption) ?_
                    rotate_left
                    · (intro w' hSw; have s0 := (hSw.cell (p := ⟨bq, oq, none⟩) hbq).trans r_0; have s1 := (hSw.cell (p := ⟨bq, oq + 1, none⟩) hbq).trans r_1; have s2 := (hSw.cell (p := ⟨bq, oq + k * 2, none⟩) hbq).trans s_0; have s3 := (hSw.cell (p := ⟨bq, oq + k * 2 + 1, none⟩) hbq).trans s_1; go_simp; try with_reducible rfl)
                    try simp only [List.getElem_toArray, List.getElem_cons_succ, List.getElem_cons_zero, Act.put, List.setIfInBounds_toArray, List.set_cons_zero, List.set_cons_succ]
                    refine wpAnyH_take (i := 13) (v := ?_) rfl (by kernel_rfl) (by kernel_rfl) (by kernel_rfl) (fun _ _ _ h => h) (Or.inl ⟨by kernel_rfl, ?_⟩) (by assumption) ?_
                    rotate_left
                    · (intro w' hSw; have s0 := (hSw.cell (p := ⟨bq, oq, none⟩) hbq).trans r_0; have s1 := (hSw.cell (p := ⟨bq, oq + 1, none⟩) hbq).trans r_1; have s2 := (hSw.cell (p := ⟨bq, oq + k * 2, none⟩) hbq).trans s_0; have s3 := (hSw.cell (p := ⟨bq, oq + k * 2 + 1, none⟩) hbq).trans s_1; go_simp; try with_reducible rfl)
                    try simp only [List.getElem_toArray, List.getElem_cons_succ, List.getElem_cons_zero, Act.put, List.setIfInBounds_toArray, List.set_cons_zero, List.set_cons_succ]
                    refine wpAnyH_take (i := 14) (v := ?_) rfl (by kernel_rfl) (by kernel_rfl) (by kernel_rfl) (fun _ _ _ h => h) (Or.inl ⟨by kernel_rfl, ?_⟩) (by assumption) ?_
                    rotate_left
                    · (intro w' hSw; have s0 := (hSw.cell (p := ⟨bq, oq, none⟩) hbq).trans r_0; have s1 := (hSw.cell (p := ⟨bq, oq + 1, none⟩) hbq).trans r_1; have s2 := (hSw.cell (p := ⟨bq, oq + k * 2, none⟩) hbq).trans s_0; have s3 := (hSw.cell (p := ⟨bq, oq + k * 2 + 1, none⟩) hbq).trans s_1; go_simp; try with_reducible rfl)
                    try simp only [List.getElem_toArray, List.getElem_cons_succ, List.getElem_cons_zero, Act.put, List.setIfInBounds_toArray, List.set_cons_zero, List.set_cons_succ]
                    refine wpAnyH_done (by kernel_rfl) ?_ _
                    clear hHeld
                    go_wp2_with fail
                    try rw [Exit.noGoto_ret]
                    go_ret
                    refine ⟨⟨_, rfl, HFAR.out, ?_⟩, HGR.out.drew⟩
                    have e : finP D9 = D9.take k := by
                      unfold finP
                      rw [if_pos ⟨by rw [HQX.out]; exact hq1, by rw [HHD.out, HLS.out, HC01.out]⟩, List.dropLast_eq_take, HQX.out, HKK.out, Nat.add_sub_cancel]
                    rw [HX9.out, e]
                    exact (HRD.out.take (by omega)).below ((Below.refl _ _).drew)
                  · have heq := cellEq_no hc01
                    have HC01 := Lib.hid hc01
                    clear hc01
                    refine wp_region_held_drew (S := fun w' => Below Wx.heap.size Wx w') (by kernel_rfl) ((Below.refl _ _).drew) (fun hHeld => ?_)
                    try simp only [List.size_toArray, List.length_cons, List.length_nil, Nat.zero_add, Nat.reduceAdd, List.replicate, Array.replicate]
                    refine wpAnyH_take (i := 0) (v := ?_) rfl (by kernel_rfl) (by kernel_rfl) (by kernel_rfl) (fun _ _ _ h => h) (Or.inl ⟨by kernel_rfl, ?_⟩) (by assumption) ?_
                    rotate_left
                    · (intro w' hSw; have s0 := (hSw.cell (p := ⟨bq, oq, none⟩) hbq).trans r_0; have s1 := (hSw.cell (p := ⟨bq, oq + 1, none⟩) hbq).trans r_1; have s2 := (hSw.cell (p := ⟨bq, oq + k * 2, none⟩) hbq).trans s_0; have s3 := (hSw.cell (p := ⟨bq, oq + k * 2 + 1, none⟩) hbq).trans s_1; go_simp; try with_reducible rfl)
                    try simp only [List.getElem_toArray, List.getElem_cons_succ, List.getElem_cons_zero, Act.put, List.setIfInBounds_toArray, List.set_cons_zero, List.set_cons_succ]
                    refine wpAnyH_take (i := 1) (v := ?_) rfl (by kernel_rfl) (by kernel_rfl) (by kernel_rfl) (fun _ _ _ h => h) (Or.inl ⟨by kernel_rfl, ?_⟩) (by assumption) ?_
                    rotate_left
                    · (intro w' hSw; have s0 := (hSw.cell (p := ⟨bq, oq, none⟩) hbq).trans r_0; have s1 := (hSw.cell (p := ⟨bq, oq + 1, none⟩) hbq).trans r_1; have s2 := (hSw.cell (p := ⟨bq, oq + k * 2, none⟩) hbq).trans s_0; have s3 := (hSw.cell (p := ⟨bq, oq + k * 2 + 1, none⟩) hbq).trans s_1; go_simp; try with_reducible rfl)
                    try simp only [List.getElem_toArray, List.getElem_cons_succ, List.getElem_cons_zero, Act.put, List.setIfInBounds_toArray, List.set_cons_zero, List.set_cons_succ]
                    refine wpAnyH_take (i := 2) (v := ?_) rfl (by kernel_rfl) (by kernel_rfl) (by kernel_rfl) (fun _ _ _ h => h) (Or.inl ⟨by kernel_rfl, ?_⟩) (by assumption) ?_
                    rotate_left
                    · (intro w' hSw; have s0 := (hSw.cell (p := ⟨bq, oq, none⟩) hbq).trans r_0; have s1 := (hSw.cell (p := ⟨bq, oq + 1, none⟩) hbq).trans r_1; have s2 := (hSw.cell (p := ⟨bq, oq + k * 2, none⟩) hbq).trans s_0; have s3 := (hSw.cell (p := ⟨bq, oq + k * 2 + 1, none⟩) hbq).trans s_1; go_simp; try with_reducible rfl)
                    try simp only [List.getElem_toArray, List.getElem_cons_succ, List.getElem_cons_zero, Act.put, List.setIfInBounds_toArray, List.set_cons_zero, List.set_cons_succ]
                    refine wpAnyH_take (i := 3) (v := ?_) rfl (by kernel_rfl) (by kernel_rfl) (by kernel_rfl) (fun _ _ _ h => h) (Or.inl ⟨by kernel_rfl, ?_⟩) (by assumption) ?_
                    rotate_left
                    · (intro w' hSw; have s0 := (hSw.cell (p := ⟨bq, oq, none⟩) hbq).trans r_0; have s1 := (hSw.cell (p := ⟨bq, oq + 1, none⟩) hbq).trans r_1; have s2 := (hSw.cell (p := ⟨bq, oq + k * 2, none⟩) hbq).trans s_0; have s3 := (hSw.cell (p := ⟨bq, oq + k * 2 + 1, none⟩) hbq).trans s_1; go_simp; try with_reducible rfl)
                    try simp only [List.getElem_toArray, List.getElem_cons_succ, List.getElem_cons_zero, Act.put, List.setIfInBounds_toArray, List.set_cons_zero, List.set_cons_succ]
                    refine wpAnyH_take (i := 4) (v := ?_) rfl (by kernel_rfl) (by kernel_rfl) (by kernel_rfl) (fun _ _ _ h => h) (Or.inl ⟨by kernel_rfl, ?_⟩) (by assumption) ?_
                    rotate_left
                    · (intro w' hSw; have s0 := (hSw.cell (p := ⟨bq, oq, none⟩) hbq).trans r_0; have s1 := (hSw.cell (p := ⟨bq, oq + 1, none⟩) hbq).trans r_1; have s2 := (hSw.cell (p := ⟨bq, oq + k * 2, none⟩) hbq).trans s_0; have s3 := (hSw.cell (p := ⟨bq, oq + k * 2 + 1, none⟩) hbq).trans s_1; go_simp; try with_reducible rfl)
                    try simp only [List.getElem_toArray, List.getElem_cons_succ, List.getElem_cons_zero, Act.put, List.setIfInBounds_toArray, List.set_cons_zero, List.set_cons_succ]
                    refine wpAnyH_take (i := 5) (v := ?_) rfl (by kernel_rfl) (by kernel_rfl) (by kernel_rfl) (fun _ _ _ h => h) (Or.inl ⟨by kernel_rfl, ?_⟩) (by assumption) ?_
                    rotate_left
                    · (intro w' hSw; have s0 := (hSw.cell (p := ⟨bq, oq, none⟩) hbq).trans r_0; have s1 := (hSw.cell (p := ⟨bq, oq + 1, none⟩) hbq).trans r_1; have s2 := (hSw.cell (p := ⟨bq, oq + k * 2, none⟩) hbq).trans s_0; have s3 := (hSw.cell (p := ⟨bq, oq + k * 2 + 1, none⟩) hbq).trans s_1; go_simp; try with_reducible rfl)
                    try simp only [List.getElem_toArray, List.getElem_cons_succ, List.getElem_cons_zero, Act.put, List.setIfInBounds_toArray, List.set_cons_zero, List.set_cons_succ]
                    refine wpAnyH_take (i := 6) (v := ?_) rfl (by kernel_rfl) (by kernel_rfl) (by kernel_rfl) (fun _ _ _ h => h) (Or.inl ⟨by kernel_rfl, ?_⟩) (by assumption) ?_
                    rotate_left
                    · (intro w' hSw; have s0 := (hSw.cell (p := ⟨bq, oq, none⟩) hbq).trans r_0; have s1 := (hSw.cell (p := ⟨bq, oq + 1, none⟩) hbq).trans r_1; have s2 := (hSw.cell (p := ⟨bq, oq + k * 2, none⟩) hbq).trans s_0; have s3 := (hSw.cell (p := ⟨bq, oq + k * 2 + 1, none⟩) hbq).trans s_1; go_simp; try with_reducible rfl)
                    try simp only [List.getElem_toArray, List.getElem_cons_succ, List.getElem_cons_zero, Act.put, List.setIfInBounds_toArray, List.set_cons_zero, List.set_cons_succ]
                    refine wpAnyH_take (i := 7) (v := ?_) rfl (by kernel_rfl) (by kernel_rfl) (by kernel_rfl) (fun _ _ _ h => h) (Or.inl ⟨by kernel_rfl, ?_⟩) (by assumption) ?_
                    rotate_left
                    · (intro w' hSw; have s0 := (hSw.cell (p := ⟨bq, oq, none⟩) hbq).trans r_0; have s1 := (hSw.cell (p := ⟨bq, oq + 1, none⟩) hbq).trans r_1; have s2 := (hSw.cell (p := ⟨bq, oq + k * 2, none⟩) hbq).trans s_0; have s3 := (hSw.cell (p := ⟨bq, oq + k * 2 + 1, none⟩) hbq).trans s_1; go_simp; try with_reducible rfl)
                    try simp only [List.getElem_toArray, List.getElem_cons_succ, List.getElem_cons_zero, Act.put, List.setIfInBounds_toArray, List.set_cons_zero, List.set_cons_succ]
                    refine wpAnyH_take (i := 8) (v := ?_) rfl (by kernel_rfl) (by kernel_rfl) (by kernel_rfl) (fun _ _ _ h => h) (Or.inl ⟨by kernel_rfl, ?_⟩) (by assumption) ?_
                    rotate_left
                    · (intro w' hSw; have s0 := (hSw.cell (p := ⟨bq, oq, none⟩) hbq).trans r_0; have s1 := (hSw.cell (p := ⟨bq, oq + 1, none⟩) hbq).trans r_1; have s2 := (hSw.cell (p := ⟨bq, oq + k * 2, none⟩) hbq).trans s_0; have s3 := (hSw.cell (p := ⟨bq, oq + k * 2 + 1, none⟩) hbq).trans s_1; go_simp; try with_reducible rfl)
                    try simp only [List.getElem_toArray, List.getElem_cons_succ, List.getElem_cons_zero, Act.put, List.setIfInBounds_toArray, List.set_cons_zero, List.set_cons_succ]
                    refine wpAnyH_take (i := 9) (v := ?_) rfl (by kernel_rfl) (by kernel_rfl) (by kernel_rfl) (fun _ _ _ h => h) (Or.inl ⟨by kernel_rfl, ?_⟩) (by assumption) ?_
                    rotate_left
                    · (intro w' hSw; have s0 := (hSw.cell (p := ⟨bq, oq, none⟩) hbq).trans r_0; have s1 := (hSw.cell (p := ⟨bq, oq + 1, none⟩) hbq).trans r_1; have s2 := (hSw.cell (p := ⟨bq, oq + k * 2, none⟩) hbq).trans s_0; have s3 := (hSw.cell (p := ⟨bq, oq + k * 2 + 1, none⟩) hbq).trans s_1; go_simp; try with_reducible rfl)
                    try simp only [List.getElem_toArray, List.getElem_cons_succ, List.getElem_cons_zero, Act.put, List.setIfInBounds_toArray, List.set_cons_zero, List.set_cons_succ]
                    refine wpAnyH_take (i := 10) (v := ?_) rfl (by kernel_rfl) (by kernel_rfl) (by kernel_rfl) (fun _ _ _ h => h) (Or.inl ⟨by kernel_rfl, ?_⟩) (by assumption) ?_
                    rotate_left
                    · (intro w' hSw; have s0 := (hSw.cell (p := ⟨bq, oq, none⟩) hbq).trans r_0; have s1 := (hSw.cell (p := ⟨bq, oq + 1, none⟩) hbq).trans r_1; have s2 := (hSw.cell (p := ⟨bq, oq + k * 2, none⟩) hbq).trans s_0; have s3 := (hSw.cell (p := ⟨bq, oq + k * 2 + 1, none⟩) hbq).trans s_1; go_simp; try with_reducible rfl)
                    try simp only [List.getElem_toArray, List.getElem_cons_succ, List.getElem_cons_zero, Act.put, List.setIfInBounds_toArray, List.set_cons_zero, List.set_cons_succ]
                    refine wpAnyH_take (i := 11) (v := ?_) rfl (by kernel_rfl) (by kernel_rfl) (by kernel_rfl) (fun _ _ _ h => h) (Or.inl ⟨by kernel_rfl, ?_⟩) (by assumption) ?_
                    rotate_left
                    · (intro w' hSw; have s0 := (hSw.cell (p := ⟨bq, oq, none⟩) hbq).trans r_0; have s1 := (hSw.cell (p := ⟨bq, oq + 1, none⟩) hbq).trans r_1; have s2 := (hSw.cell (p := ⟨bq, oq + k * 2, none⟩) hbq).trans s_0; have s3 := (hSw.cell (p := ⟨bq, oq + k * 2 + 1, none⟩) hbq).trans s_1; go_simp; try with_reducible rfl)
                    try simp only [List.getElem_toArray, List.getElem_cons_succ, List.getElem_cons_zero, Act.put, List.setIfInBounds_toArray, List.set_cons_zero, List.set_cons_succ]
                    refine wpAnyH_take (i := 12) (v := ?_) rfl (by kernel_rfl) (by kernel_rfl) (by kernel_rfl) (fun _ _ _ h => h) (Or.inl ⟨by kernel_rfl, ?_⟩) (by assumption) ?_
                    rotate_left
                    · (intro w' hSw; have s0 := (hSw.cell (p := ⟨bq, oq, none⟩) hbq).trans r_0; have s1 := (hSw.cell (p := ⟨bq, oq + 1, none⟩) hbq).trans r_1; have s2 := (hSw.cell (p := ⟨bq, oq + k * 2, none⟩) hbq).trans s_0; have s3 := (hSw.cell (p := ⟨bq, oq + k * 2 + 1, none⟩) hbq).trans s_1; go_simp; try with_reducible rfl)
                    try simp only [List.getElem_toArray, List.getElem_cons_succ, List.getElem_cons_zero, Act.put, List.setIfInBounds_toArray, List.set_cons_zero, List.set_cons_succ]
                    refine wpAnyH_take (i := 13) (v := ?_) rfl (by kernel_rfl) (by kernel_rfl) (by kernel_rfl) (fun _ _ _ h => h) (Or.inl ⟨by kernel_rfl, ?_⟩) (by assumption) ?_
                    rotate_left
                    · (intro w' hSw; have s0 := (hSw.cell (p := ⟨bq, oq, none⟩) hbq).trans r_0; have s1 := (hSw.cell (p := ⟨bq, oq + 1, none⟩) hbq).trans r_1; have s2 := (hSw.cell (p := ⟨bq, oq + k * 2, none⟩) hbq).trans s_0; have s3 := (hSw.cell (p := ⟨bq, oq + k * 2 + 1, none⟩) hbq).trans s_1; go_simp; try with_reducible rfl)
                    try simp only [List.getElem_toArray, List.getElem_cons_succ, List.getElem_cons_zero, Act.put, List.setIfInBounds_toArray, List.set_cons_zero, List.set_cons_succ]
                    refine wpAnyH_take (i := 14) (v := ?_) rfl (by kernel_rfl) (by kernel_rfl) (by kernel_rfl) (fun _ _ _ h => h) (Or.inl ⟨by kernel_rfl, ?_⟩) (by assumption) ?_
                    rotate_left
                    · (intro w' hSw; have s0 := (hSw.cell (p := ⟨bq, oq, none⟩) hbq).trans r_0; have s1 := (hSw.cell (p := ⟨bq, oq + 1, none⟩) hbq).trans r_1; have s2 := (hSw.cell (p := ⟨bq, oq + k * 2, none⟩) hbq).trans s_0; have s3 := (hSw.cell (p := ⟨bq, oq + k * 2 + 1, none⟩) hbq).trans s_1; go_simp; try with_reducible rfl)
                    try simp only [List.getElem_toArray, List.getElem_cons_succ, List.getElem_cons_zero, Act.put, List.setIfInBounds_toArray, List.set_cons_zero, List.set_cons_succ]
                    refine wpAnyH_done (by kernel_rfl) ?_ _
                    clear hHeld
                    go_wp2_with fail
                    try rw [Exit.noGoto_ret]
                    go_ret
                    refine ⟨⟨_, rfl, HFAR.out, ?_⟩, HGR.out.drew⟩
                    have e : finP D9 = D9 := by
                      unfold finP
                      rw [if_neg (fun h => HC01.out (by have := h.2; rw [HHD.out, HLS.out] at this; injection this))]
                    rw [HX9.out, e]
                    exact HRD.out.below ((Below.refl _ _).drew)
                · have hq1i : ¬ (1 : Int) < (q6 : Int) := by omega
                  clear hrd hqx hD9
                  refine wp_region_held_drew (S := fun w' => Below Wx.heap.size Wx w') (by kernel_rfl) ((Below.refl _ _).drew) (fun hHeld => ?_)
                  try simp only [List.size_toArray, List.length_cons, List.length_nil, Nat.zero_add, Nat.reduceAdd, List.replicate, Array.replicate]
                  refine wpAnyH_take (i := 0) (v := ?_) rfl (by kernel_rfl) (by kernel_rfl) (by kernel_rfl) (fun _ _ _ h => h) (Or.inl ⟨by kernel_rfl, ?_⟩) (by assumption) ?_
                  rotate_left
                  · (intro w' hSw; skip; go_simp; try with_reducible rfl)
                  try simp only [List.getElem_toArray, List.getElem_cons_succ, List.getElem_cons_zero, Act.put, List.setIfInBounds_toArray, List.set_cons_zero, List.set_cons_succ]
                  refine wpAnyH_take (i := 1) (v := ?_) rfl (by kernel_rfl) (by kernel_rfl) (by kernel_rfl) (fun _ _ _ h => h) (Or.inl ⟨by kernel_rfl, ?_⟩) (by assumption) ?_
                  rotate_left
                  · (intro w' hSw; skip; go_simp; try with_reducible rfl)
                  try simp only [List.getElem_toArray, List.getElem_cons_succ, List.getElem_cons_zero, Act.put, List.setIfInBounds_toArray, List.set_cons_zero, List.set_cons_succ]
                  refine wpAnyH_take (i := 2) (v := ?_) rfl (by kernel_rfl) (by kernel_rfl) (by kernel_rfl) (fun _ _ _ h => h) (Or.inl ⟨by kernel_rfl, ?_⟩) (by assumption) ?_
                  rotate_left
                  · (intro w' hSw; skip; go_simp; try with_reducible rfl)
                  try simp only [List.getElem_toArray, List.getElem_cons_succ, List.getElem_cons_zero, Act.put, List.setIfInBounds_toArray, List.set_cons_zero, List.set_cons_succ]
                  refine wpAnyH_take (i := 3) (v := ?_) rfl (by kernel_rfl) (by kernel_rfl) (by kernel_rfl) (fun _ _ _ h => h) (Or.inl ⟨by kernel_rfl, ?_⟩) (by assumption) ?_
                  rotate_left
                  · (intro w' hSw; skip; go_simp; try with_reducible rfl)
                  try simp only [List.getElem_toArray, List.getElem_cons_succ, List.getElem_cons_zero, Act.put, List.setIfInBounds_toArray, List.set_cons_zero, List.set_cons_succ]
                  refine wpAnyH_take (i := 4) (v := undef) rfl (by kernel_rfl) (by kernel_rfl) (by kernel_rfl) (fun _ _ _ h => h) (Or.inr ⟨by kernel_rfl, rfl⟩) (by assumption) ?_
                  try simp only [List.getElem_toArray, List.getElem_cons_succ, List.getElem_cons_zero, Act.put, List.setIfInBounds_toArray, List.set_cons_zero, List.set_cons_succ]
                  refine wpAnyH_take (i := 5) (v := undef) rfl (by kernel_rfl) (by kernel_rfl) (by kernel_rfl) (fun _ _ _ h => h) (Or.inr ⟨by kernel_rfl, rfl⟩) (by assumption) ?_
                  try simp only [List.getElem_toArray, List.getElem_cons_succ, List.getElem_cons_zero, Act.put, List.setIfInBounds_toArray, List.set_cons_zero, List.set_cons_succ]
                  refine wpAnyH_take (i := 6) (v := undef) rfl (by kernel_rfl) (by kernel_rfl) (by kernel_rfl) (fun _ _ _ h => h) (Or.inr ⟨by kernel_rfl, rfl⟩) (by assumption) ?_
                  try simp only [List.getElem_toArray, List.getElem_cons_succ, List.getElem_cons_zero, Act.put, List.setIfInBounds_toArray, List.set_cons_zero, List.set_cons_succ]
                  refine wpAnyH_take (i := 7) (v := undef) rfl (by kernel_rfl) (by kernel_rfl) (by kernel_rfl) (fun _ _ _ h => h) (Or.inr ⟨by kernel_rfl, rfl⟩) (by assumption) ?_
                  try simp only [List.getElem_toArray, List.getElem_cons_succ, List.getElem_cons_zero, Act.put, List.setIfInBounds_toArray, List.set_cons_zero, List.set_cons_succ]
                  refine wpAnyH_take (i := 8) (v := undef) rfl (by kernel_rfl) (by kernel_rfl) (by kernel_rfl) (fun _ _ _ h => h) (Or.inr ⟨by kernel_rfl, rfl⟩) (by assumption) ?_
                  try simp only [List.getElem_toArray, List.getElem_cons_succ, List.getElem_cons_zero, Act.put, List.setIfInBounds_toArray, List.set_cons_zero, List.set_cons_succ]
                  refine wpAnyH_take (i := 9) (v := undef) rfl (by kernel_rfl) (by kernel_rfl) (by kernel_rfl) (fun _ _ _ h => h) (Or.inr ⟨by kernel_rfl, rfl⟩) (by assumption) ?_
                  try simp only [List.getElem_toArray, List.getElem_cons_succ, List.getElem_cons_zero, Act.put, List.setIfInBounds_toArray, List.set_cons_zero, List.set_cons_succ]
                  refine wpAnyH_take (i := 10) (v := undef) rfl (by kernel_rfl) (by kernel_rfl) (by kernel_rfl) (fun _ _ _ h => h) (Or.inr ⟨by kernel_rfl, rfl⟩) (by assumption) ?_
                  try simp only [List.getElem_toArray, List.getElem_cons_succ, List.getElem_cons_zero, Act.put, List.setIfInBounds_toArray, List.set_cons_zero, List.set_cons_succ]
                  refine wpAnyH_take (i := 11) (v := undef) rfl (by kernel_rfl) (by kernel_rfl) (by kernel_rfl) (fun _ _ _ h => h) (Or.inr ⟨by kernel_rfl, rfl⟩) (by assumption) ?_
                  try simp only [List.getElem_toArray, List.getElem_cons_succ, List.getElem_cons_zero, Act.put, List.setIfInBounds_toArray, List.set_cons_zero, List.set_cons_succ]
                  refine wpAnyH_take (i := 12) (v := undef) rfl (by kernel_rfl) (by kernel_rfl) (by kernel_rfl) (fun _ _ _ h => h) (Or.inr ⟨by kernel_rfl, rfl⟩) (by assumption) ?_
                  try simp only [List.getElem_toArray, List.getElem_cons_succ, List.getElem_cons_zero, Act.put, List.setIfInBounds_toArray, List.set_cons_zero, List.set_cons_succ]
                  refine wpAnyH_take (i := 13) (v := undef) rfl (by kernel_rfl) (by kernel_rfl) (by kernel_rfl) (fun _ _ _ h => h) (Or.inr ⟨by kernel_rfl, rfl⟩) (by assumption) ?_
                  try simp only [List.getElem_toArray, List.getElem_cons_succ, List.getElem_cons_zero, Act.put, List.setIfInBounds_toArray, List.set_cons_zero, List.set_cons_succ]
                  refine wpAnyH_take (i := 14) (v := ?_) rfl (by kernel_rfl) (by kernel_rfl) (by kernel_rfl) (fun _ _ _ h => h) (Or.inl ⟨by kernel_rfl, ?_⟩) (by assumption) ?_
                  rotate_left
                  · (intro w' hSw; skip; go_simp; try with_reducible rfl)
                  try simp only [List.getElem_toArray, List.getElem_cons_succ, List.getElem_cons_zero, Act.put, List.setIfInBounds_toArray, List.set_cons_zero, List.set_cons_succ]
                  refine wpAnyH_done (by kernel_rfl) ?_ _
                  clear hHeld
                  go_wp2_with fail
                  try rw [Exit.noGoto_ret]
                  go_ret
                  refine ⟨⟨_, rfl, HFAR.out, ?_⟩, HGR.out.drew⟩
                  have e : finP D9 = D9 := by
                    unfold finP
                    rw [if_neg (fun h => hq1 (by rw [← HQX.out]; exact h.1))]
                  rw [HX9.out, e]
                  exact HRD.out.below ((Below.refl _ _).drew)
              · have hbn : (((i : Int) + 1) == (n : Int)) = false := by rw [beq_eq_false_iff_ne]; omega
                have hi1 : i + 1 < n := by omega
                have HQ1 := Lib.hid (show qn = i + 1 by rw [← HQN.out]; exact Nat.mod_eq_of_lt hi1)
                clear hlast
                go_wp2_with fail
                refine ⟨Lib.hid ⟨i + 1, y, A6, q6, c6, hi1, by rw [← HQ1.out]; exact HK1.out, rfl, rfl, HIE.out⟩, ?_⟩
                simp only [intOf]
                omega
            · have hc : ¬ (dvec l.2.1).1 * (dvec y.2.1).2 - (dvec l.2.1).2 * (dvec y.2.1).1 < 0 := fun h => hright (hcr.1 h)
              have hraw2 : ded (rawTo L (i + 1)) = ded (rawTo L i ++ legR (l.1, l.2.1, j)) := by
                rw [HRW.out]; unfold turnR; rw [if_neg hright, List.append_nil]
              have HR2 := Lib.hid hraw2
              clear hcr hright hraw2
              have hI : WcI w w.heap.size gd ((Wb.setCell ⟨gd, 0, none⟩ (.int .i64 (dvec y.2.1).1)).setCell ⟨gd, 1, none⟩ (.int .i64 (dvec y.2.1).2)) y.1 y.2.1 A2 q2 c2 (rawTo L (i + 1)) := by
                have hne : w.heap.size ≠ gd := by omega
                refine ⟨⟨Nat.le_refl _, hgd2⟩, ?_, (HVD.out.set_ 0 _).set_ 1 _, ?_, by rw [HR2.out]; exact HII.out.hq, ?_⟩
                · rw [← HPY.out]; exact (HVP.out.far (p := ⟨gd, 0, none⟩) hne _).far (p := ⟨gd, 1, none⟩) hne _
                · rw [HR2.out]
                  have h1 := HOW.out
                  have n1 := own_ne h1 HVD.out (by decide)
                  have g1 := grownBy_set (w := Wb) (p := ⟨gd, 0, none⟩) (.int .i64 (dvec y.2.1).1)
                  have g2 := grownBy_set (w := Wb.setCell ⟨gd, 0, none⟩ (.int .i64 (dvec y.2.1).1)) (p := ⟨gd, 1, none⟩) (.int .i64 (dvec y.2.1).2)
                  exact (h1.kept g1 (.inr n1)).kept g2 (.inr n1)
                · exact (HWB.out.setCell (p := ⟨gd, 0, none⟩) (Nat.le_of_lt hgd2) _).setCell (p := ⟨gd, 1, none⟩) (Nat.le_of_lt hgd2) _
              have HIE := Lib.hid hI
              clear hI
              by_cases hlast : i + 1 = n
              · have hbn : (((i : Int) + 1) == (n : Int)) = true := by rw [beq_iff_eq]; omega
                have HLA := Lib.hid hlast
                clear hlast
                go_wp2_with fail
                obtain ⟨Wx, hWx⟩ : ∃ Wx, (Wb.setCell ⟨gd, 0, none⟩ (.int .i64 (dvec y.2.1).1)).setCell ⟨gd, 1, none⟩ (.int .i64 (dvec y.2.1).2) = Wx := ⟨_, rfl⟩
                rw [hWx] at HIE ⊢
                clear hWx
                have hIx := HIE.out
                obtain ⟨D9, hD9⟩ : ∃ D9, ded (rawTo L (i + 1)) = D9 := ⟨_, rfl⟩
                have hX : walkL L = finP D9 := by unfold walkL; rw [HLN.out, ← HLA.out, hD9]
                have hox := hIx.own
                have hqx := hIx.hq
                rw [hD9] at hox hqx
                have hrd := Rd.own' encPt_len (by decide) hox
                obtain ⟨A9, cap9, e9, hcap9, hop9⟩ := hrd.open_
                rw [hqx] at e9 hcap9
                injection e9 with e91 e92 e93
                rw [← e93] at hcap9
                have HX9 := Lib.hid hX
                have HRD := Lib.hid hrd
                have HQX := Lib.hid hqx
                have HGR := Lib.hid hIx.grw
                have HFAR := Lib.hid (own_far hIx.own (Nat.le_of_lt (Nat.lt_succ_of_lt hgd2)))
                clear hX hox hIx hop9 e91 e92 e93
                by_cases hq1 : 1 < q2
                · obtain ⟨k, hk⟩ : ∃ k, q2 = k + 1 := ⟨q2 - 1, by omega⟩
                  obtain ⟨x0, hx0⟩ : ∃ x, D9[0]? = some x := ⟨_, List.getElem?_eq_getElem (by omega)⟩
                  obtain ⟨x1, hx1⟩ : ∃ x, D9[k]? = some x := ⟨_, List.getElem?_eq_getElem (by omega)⟩
                  obtain ⟨bq, oq, hAq, hbq, hcq⟩ := Rd.op hrd 0 x0 hx0
                  have r_0 : Wx.cell? ⟨bq, oq, none⟩ = some (.int .i64 x0.1) := by simpa using hcq 0 x0 hx0 0 _ rfl
                  have r_1 : Wx.cell? ⟨bq, oq + 1, none⟩ = some (.int .i64 x0.2) := by simpa using hcq 0 x0 hx0 1 _ rfl
                  have s_0 : Wx.cell? ⟨bq, oq + k * 2, none⟩ = some (.int .i64 x1.1) := hcq k x1 hx1 0 _ rfl
                  have s_1 : Wx.cell? ⟨bq, oq + k * 2 + 1, none⟩ = some (.int .i64 x1.2) := hcq k x1 hx1 1 _ rfl
                  have hq1i : (1 : Int) < (q2 : Int) := by omega
                  have hq0 : 0 < q2 := by omega
                  have hkq : k < q2 := by omega
                  have hkc : k ≤ c2 := by omega
                  have ek : IntKind.i64.wrap ((q2 : Int) - 1) = (k : Int) := by
                    rw [IntWalk.i64_in _ (by
                      have h1 := raw_le HL.out (i := L.length) (Nat.le_refl _)
                      have h2 := ded_le (rawTo L L.length)
                      have h3 := HLE.out
                      rw [HLN.out, ← HLA.out] at h1 h2
                      rw [hD9] at h2
                      omega)]; omega
                  have hhead : D9.head? = some x0 := by rw [List.head?_eq_getElem?]; exact hx0
                  have hlst : D9.getLast? = some x1 := by rw [List.getLast?_eq_getElem?, hqx, hk]; exact hx1
                  have HHD := Lib.hid hhead
                  have HLS := Lib.hid hlst
                  have HKK := Lib.hid hk
                  subst hAq
                  clear hcq hx0 hx1 hhead hlst hk hD9 hqx hrd
                  by_cases hc01 : x0 = x1
                  · have heq : ∀ w : World, (binOp .eql 47 (.agg #[.int .i64 x0.1, .int .i64 x0.2]) (.agg #[.int .i64 x1.1, .int .i64 x1.2])).run Tryz.prog w = .ok (.bool true) w := by rw [← hc01]; exact cellEq_yes x0
                    have HC01 := Lib.hid hc01
                    clear hc01
                    refine wp_region_held_drew (S := fun w' => Below Wx.heap.size Wx w') (by kernel_rfl) ((Below.refl _ _).drew) (fun hHeld => ?_)
                    try simp only [List.size_toArray, List.length_cons, List.length_nil, Nat.zero_add, Nat.reduceAdd, List.replicate, Array.replicate]
                    refine wpAnyH_take (i := 0) (v := ?_) rfl (by kernel_rfl) (by kernel_rfl) (by kernel_rfl) (fun _ _ _ h => h) (Or.inl ⟨by kernel_rfl, ?_⟩) (by assumption) ?_
                    rotate_left
                    · (intro w' hSw; have s0 := (hSw.cell (p := ⟨bq, oq, none⟩) hbq).trans r_0; have s1 := (hSw.cell (p := ⟨bq, oq + 1, none⟩) hbq).trans r_1; have s2 := (hSw.cell (p := ⟨bq, oq + k * 2, none⟩) hbq).trans s_0; have s3 := (hSw.cell (p := ⟨bq, oq + k * 2 + 1, none⟩) hbq).trans s_1; go_simp; try with_reducible rfl)
                    try simp only [List.getElem_toArray, List.getElem_cons_succ, List.getElem_cons_zero, Act.put, List.setIfInBounds_toArray, List.set_cons_zero, List.set_cons_succ]
                    refine wpAnyH_take (i := 1) (v := ?_) rfl (by kernel_rfl) (by kernel_rfl) (by kernel_rfl) (fun _ _ _ h => h) (Or.inl ⟨by kernel_rfl, ?_⟩) (by assumption) ?_
                    rotate_left
                    · (intro w' hSw; have s0 := (hSw.cell (p := ⟨bq, oq, none⟩) hbq).trans r_0; have s1 := (hSw.cell (p := ⟨bq, oq + 1, none⟩) hbq).trans r_1; have s2 := (hSw.cell (p := ⟨bq, oq + k * 2, none⟩) hbq).trans s_0; have s3 := (hSw.cell (p := ⟨bq, oq + k * 2 + 1, none⟩) hbq).trans s_1; go_simp; try with_reducible rfl)
                    try simp only [List.getElem_toArray, List.getElem_cons_succ, List.getElem_cons_zero, Act.put, List.setIfInBounds_toArray, List.set_cons_zero, List.set_cons_succ]
                    refine wpAnyH_take (i := 2) (v := ?_) rfl (by kernel_rfl) (by kernel_rfl) (by kernel_rfl) (fun _ _ _ h => h) (Or.inl ⟨by kernel_rfl, ?_⟩) (by assumption) ?_
                    rotate_left
                    · (intro w' hSw; have s0 := (hSw.cell (p := ⟨bq, oq, none⟩) hbq).trans r_0; have s1 := (hSw.cell (p := ⟨bq, oq + 1, none⟩) hbq).trans r_1; have s2 := (hSw.cell (p := ⟨bq, oq + k * 2, none⟩) hbq).trans s_0; have s3 := (hSw.cell (p := ⟨bq, oq + k * 2 + 1, none⟩) hbq).trans s_1; go_simp; try with_reducible rfl)
                    try simp only [List.getElem_toArray, List.getElem_cons_succ, List.getElem_cons_zero, Act.put, List.setIfInBounds_toArray, List.set_cons_zero, List.set_cons_succ]
                    refine wpAnyH_take (i := 3) (v := ?_) rfl (by kernel_rfl) (by kernel_rfl) (by kernel_rfl) (fun _ _ _ h => h) (Or.inl ⟨by kernel_rfl, ?_⟩) (by assumption) ?_
                    rotate_left
                    · (intro w' hSw; have s0 := (hSw.cell (p := ⟨bq, oq, none⟩) hbq).trans r_0; have s1 := (hSw.cell (p := ⟨bq, oq + 1, none⟩) hbq).trans r_1; have s2 := (hSw.cell (p := ⟨bq, oq + k * 2, none⟩) hbq).trans s_0; have s3 := (hSw.cell (p := ⟨bq, oq + k * 2 + 1, none⟩) hbq).trans s_1; go_simp; try with_reducible rfl)
                    try simp only [List.getElem_toArray, List.getElem_cons_succ, List.getElem_cons_zero, Act.put, List.setIfInBounds_toArray, List.set_cons_zero, List.set_cons_succ]
                    refine wpAnyH_take (i := 4) (v := ?_) rfl (by kernel_rfl) (by kernel_rfl) (by kernel_rfl) (fun _ _ _ h => h) (Or.inl ⟨by kernel_rfl, ?_⟩) (by assumption) ?_
                    rotate_left
                    · (intro w' hSw; have s0 := (hSw.cell (p := ⟨bq, oq, none⟩) hbq).trans r_0; have s1 := (hSw.cell (p := ⟨bq, oq + 1, none⟩) hbq).trans r_1; have s2 := (hSw.cell (p := ⟨bq, oq + k * 2, none⟩) hbq).trans s_0; have s3 := (hSw.cell (p := ⟨bq, oq + k * 2 + 1, none⟩) hbq).trans s_1; go_simp; try with_reducible rfl)
                    try simp only [List.getElem_toArray, List.getElem_cons_succ, List.getElem_cons_zero, Act.put, List.setIfInBounds_toArray, List.set_cons_zero, List.set_cons_succ]
                    refine wpAnyH_take (i := 5) (v := ?_) rfl (by kernel_rfl) (by kernel_rfl) (by kernel_rfl) (fun _ _ _ h => h) (Or.inl ⟨by kernel_rfl, ?_⟩) (by assumption) ?_
                    rotate_left
                    · (intro w' hSw; have s0 := (hSw.cell (p := ⟨bq, oq, none⟩) hbq).trans r_0; have s1 := (hSw.cell (p := ⟨bq, oq + 1, none⟩) hbq).trans r_1; have s2 := (hSw.cell (p := ⟨bq, oq + k * 2, none⟩) hbq).trans s_0; have s3 := (hSw.cell (p := ⟨bq, oq + k * 2 + 1, none⟩) hbq).trans s_1; go_simp; try with_reducible rfl)
                    try simp only [List.getElem_toArray, List.getElem_cons_succ, List.getElem_cons_zero, Act.put, List.setIfInBounds_toArray, List.set_cons_zero, List.set_cons_succ]
                    refine wpAnyH_take (i := 6) (v := ?_) rfl (by kernel_rfl) (by kernel_rfl) (by kernel_rfl) (fun _ _ _ h => h) (Or.inl ⟨by kernel_rfl, ?_⟩) (by assumption) ?_
                    rotate_left
                    · (intro w' hSw; have s0 := (hSw.cell (p := ⟨bq, oq, none⟩) hbq).trans r_0; have s1 := (hSw.cell (p := ⟨bq, oq + 1, none⟩) hbq).trans r_1; have s2 := (hSw.cell (p := ⟨bq, oq + k * 2, none⟩) hbq).trans s_0; have s3 := (hSw.cell (p := ⟨bq, oq + k * 2 + 1, none⟩) hbq).trans s_1; go_simp; try with_reducible rfl)
                    try simp only [List.getElem_toArray, List.getElem_cons_succ, List.getElem_cons_zero, Act.put, List.setIfInBounds_toArray, List.set_cons_zero, List.set_cons_succ]
                    refine wpAnyH_take (i := 7) (v := ?_) rfl (by kernel_rfl) (by kernel_rfl) (by kernel_rfl) (fun _ _ _ h => h) (Or.inl ⟨by kernel_rfl, ?_⟩) (by assumption) ?_
                    rotate_left
                    · (intro w' hSw; have s0 := (hSw.cell (p := ⟨bq, oq, none⟩) hbq).trans r_0; have s1 := (hSw.cell (p := ⟨bq, oq + 1, none⟩) hbq).trans r_1; have s2 := (hSw.cell (p := ⟨bq, oq + k * 2, none⟩) hbq).trans s_0; have s3 := (hSw.cell (p := ⟨bq, oq + k * 2 + 1, none⟩) hbq).trans s_1; go_simp; try with_reducible rfl)
                    try simp only [List.getElem_toArray, List.getElem_cons_succ, List.getElem_cons_zero, Act.put, List.setIfInBounds_toArray, List.set_cons_zero, List.set_cons_succ]
                    refine wpAnyH_take (i := 8) (v := ?_) rfl (by kernel_rfl) (by kernel_rfl) (by kernel_rfl) (fun _ _ _ h => h) (Or.inl ⟨by kernel_rfl, ?_⟩) (by assumption) ?_
                    rotate_left
                    · (intro w' hSw; have s0 := (hSw.cell (p := ⟨bq, oq, none⟩) hbq).trans r_0; have s1 := (hSw.cell (p := ⟨bq, oq + 1, none⟩) hbq).trans r_1; have s2 := (hSw.cell (p := ⟨bq, oq + k * 2, none⟩) hbq).trans s_0; have s3 := (hSw.cell (p := ⟨bq, oq + k * 2 + 1, none⟩) hbq).trans s_1; go_simp; try with_reducible rfl)
                    try simp only [List.getElem_toArray, List.getElem_cons_succ, List.getElem_cons_zero, Act.put, List.setIfInBounds_toArray, List.set_cons_zero, List.set_cons_succ]
                    refine wpAnyH_take (i := 9) (v := ?_) rfl (by kernel_rfl) (by kernel_rfl) (by kernel_rfl) (fun _ _ _ h => h) (Or.inl ⟨by kernel_rfl, ?_⟩) (by assumption) ?_
                    rotate_left
                    · (intro w' hSw; have s0 := (hSw.cell (p := ⟨bq, oq, none⟩) hbq).trans r_0; have s1 := (hSw.cell (p := ⟨bq, oq + 1, none⟩) hbq).trans r_1; have s2 := (hSw.cell (p := ⟨bq, oq + k * 2, none⟩) hbq).trans s_0; have s3 := (hSw.cell (p := ⟨bq, oq + k * 2 + 1, none⟩) hbq).trans s_1; go_simp; try with_reducible rfl)
                    try simp only [List.getElem_toArray, List.getElem_cons_succ, List.getElem_cons_zero, Act.put, List.setIfInBounds_toArray, List.set_cons_zero, List.set_cons_succ]
                    refine wpAnyH_take (i := 10) (v := ?_) rfl (by kernel_rfl) (by kernel_rfl) (by kernel_rfl) (fun _ _ _ h => h) (Or.inl ⟨by kernel_rfl, ?_⟩) (by assumption) ?_
                    rotate_left
                    · (intro w' hSw; have s0 := (hSw.cell (p := ⟨bq, oq, none⟩) hbq).trans r_0; have s1 := (hSw.cell (p := ⟨bq, oq + 1, none⟩) hbq).trans r_1; have s2 := (hSw.cell (p := ⟨bq, oq + k * 2, none⟩) hbq).trans s_0; have s3 := (hSw.cell (p := ⟨bq, oq + k * 2 + 1, none⟩) hbq).trans s_1; go_simp; try with_reducible rfl)
                    try simp only [List.getElem_toArray, List.getElem_cons_succ, List.getElem_cons_zero, Act.put, List.setIfInBounds_toArray, List.set_cons_zero, List.set_cons_succ]
                    refine wpAnyH_take (i := 11) (v := ?_) rfl (by kernel_rfl) (by kernel_rfl) (by kernel_rfl) (fun _ _ _ h => h) (Or.inl ⟨by kernel_rfl, ?_⟩) (by assumption) ?_
                    rotate_left
                    · (intro w' hSw; have s0 := (hSw.cell (p := ⟨bq, oq, none⟩) hbq).trans r_0; have s1 := (hSw.cell (p := ⟨bq, oq + 1, none⟩) hbq).trans r_1; have s2 := (hSw.cell (p := ⟨bq, oq + k * 2, none⟩) hbq).trans s_0; have s3 := (hSw.cell (p := ⟨bq, oq + k * 2 + 1, none⟩) hbq).trans s_1; go_simp; try with_reducible rfl)
                    try simp only [List.getElem_toArray, List.getElem_cons_succ, List.getElem_cons_zero, Act.put, List.setIfInBounds_toArray, List.set_cons_zero, List.set_cons_succ]
                    refine wpAnyH_take (i := 12) (v := ?_) rfl (by kernel_rfl) (by kernel_rfl) (by kernel_rfl) (fun _ _ _ h => h) (Or.inl ⟨by kernel_rfl, ?_⟩) (by assumption) ?_
                    rotate_left
                    · (intro w' hSw; have s0 := (hSw.cell (p := ⟨bq, oq, none⟩) hbq).trans r_0; have s1 := (hSw.cell (p := ⟨bq, oq + 1, none⟩) hbq).trans r_1; have s2 := (hSw.cell (p := ⟨bq, oq + k * 2, none⟩) hbq).trans s_0; have s3 := (hSw.cell (p := ⟨bq, oq + k * 2 + 1, none⟩) hbq).trans s_1; go_simp; try with_reducible rfl)
                    try simp only [List.getElem_toArray, List.getElem_cons_succ, List.getElem_cons_zero, Act.put, List.setIfInBounds_toArray, List.set_cons_zero, List.set_cons_succ]
                    refine wpAnyH_take (i := 13) (v := ?_) rfl (by kernel_rfl) (by kernel_rfl) (by kernel_rfl) (fun _ _ _ h => h) (Or.inl ⟨by kernel_rfl, ?_⟩) (by assumption) ?_
                    rotate_left
                    · (intro w' hSw; have s0 := (hSw.cell (p := ⟨bq, oq, none⟩) hbq).trans r_0; have s1 := (hSw.cell (p := ⟨bq, oq + 1, none⟩) hbq).trans r_1; have s2 := (hSw.cell (p := ⟨bq, oq + k * 2, none⟩) hbq).trans s_0; have s3 := (hSw.cell (p := ⟨bq, oq + k * 2 + 1, none⟩) hbq).trans s_1; go_simp; try with_reducible rfl)
                    try simp only [List.getElem_toArray, List.getElem_cons_succ, List.getElem_cons_zero, Act.put, List.setIfInBounds_toArray, List.set_cons_zero, List.set_cons_succ]
                    refine wpAnyH_take (i := 14) (v := ?_) rfl (by kernel_rfl) (by kernel_rfl) (by kernel_rfl) (fun _ _ _ h => h) (Or.inl ⟨by kernel_rfl, ?_⟩) (by assumption) ?_
                    rotate_left
                    · (intro w' hSw; have s0 := (hSw.cell (p := ⟨bq, oq, none⟩) hbq).trans r_0; have s1 := (hSw.cell (p := ⟨bq, oq + 1, none⟩) hbq).trans r_1; have s2 := (hSw.cell (p := ⟨bq, oq + k * 2, none⟩) hbq).trans s_0; have s3 := (hSw.cell (p := ⟨bq, oq + k * 2 + 1, none⟩) hbq).trans s_1; go_simp; try with_reducible rfl)
                    try simp only [List.getElem_toArray, List.getElem_cons_succ, List.getElem_cons_zero, Act.put, List.setIfInBounds_toArray, List.set_cons_zero, List.set_cons_succ]
                    refine wpAnyH_done (by kernel_rfl) ?_ _
                    clear hHeld
                    go_wp2_with fail
                    try rw [Exit.noGoto_ret]
                    go_ret
                    refine ⟨⟨_, rfl, HFAR.out, ?_⟩, HGR.out.drew⟩
                    have e : finP D9 = D9.take k := by
                      unfold finP
                      rw [if_pos ⟨by rw [HQX.out]; exact hq1, by rw [HHD.out, HLS.out, HC01.out]⟩, List.dropLast_eq_take, HQX.out, HKK.out, Nat.add_sub_cancel]
                    rw [HX9.out, e]
                    exact (HRD.out.take (by omega)).below ((Below.refl _ _).drew)
                  · have heq := cellEq_no hc01
                    have HC01 := Lib.hid hc01
                    clear hc01
                    refine wp_region_held_drew (S := fun w' => Below Wx.heap.size Wx w') (by kernel_rfl) ((Below.refl _ _).drew) (fun hHeld => ?_)
                    try simp only [List.size_toArray, List.length_cons, List.length_nil, Nat.zero_add, Nat.reduceAdd, List.replicate, Array.replicate]
                    refine wpAnyH_take (i := 0) (v := ?_) rfl (by kernel_rfl) (by kernel_rfl) (by kernel_rfl) (fun _ _ _ h => h) (Or.inl ⟨by kernel_rfl, ?_⟩) (by assumption) ?_
                    rotate_left
                    · (intro w' hSw; have s0 := (hSw.cell (p := ⟨bq, oq, none⟩) hbq).trans r_0; have s1 := (hSw.cell (p := ⟨bq, oq + 1, none⟩) hbq).trans r_1; have s2 := (hSw.cell (p := ⟨bq, oq + k * 2, none⟩) hbq).trans s_0; have s3 := (hSw.cell (p := ⟨bq, oq + k * 2 + 1, none⟩) hbq).trans s_1; go_simp; try with_reducible rfl)
                    try simp only [List.getElem_toArray, List.getElem_cons_succ, List.getElem_cons_zero, Act.put, List.setIfInBounds_toArray, List.set_cons_zero, List.set_cons_succ]
                    refine wpAnyH_take (i := 1) (v := ?_) rfl (by kernel_rfl) (by kernel_rfl) (by kernel_rfl) (fun _ _ _ h => h) (Or.inl ⟨by kernel_rfl, ?_⟩) (by assumption) ?_
                    rotate_left
                    · (intro w' hSw; have s0 := (hSw.cell (p := ⟨bq, oq, none⟩) hbq).trans r_0; have s1 := (hSw.cell (p := ⟨bq, oq + 1, none⟩) hbq).trans r_1; have s2 := (hSw.cell (p := ⟨bq, oq + k * 2, none⟩) hbq).trans s_0; have s3 := (hSw.cell (p := ⟨bq, oq + k * 2 + 1, none⟩) hbq).trans s_1; go_simp; try with_reducible rfl)
                    try simp only [List.getElem_toArray, List.getElem_cons_succ, List.getElem_cons_zero, Act.put, List.setIfInBounds_toArray, List.set_cons_zero, List.set_cons_succ]
                    refine wpAnyH_take (i := 2) (v := ?_) rfl (by kernel_rfl) (by kernel_rfl) (by kernel_rfl) (fun _ _ _ h => h) (Or.inl ⟨by kernel_rfl, ?_⟩) (by assumption) ?_
                    rotate_left
                    · (intro w' hSw; have s0 := (hSw.cell (p := ⟨bq, oq, none⟩) hbq).trans r_0; have s1 := (hSw.cell (p := ⟨bq, oq + 1, none⟩) hbq).trans r_1; have s2 := (hSw.cell (p := ⟨bq, oq + k * 2, none⟩) hbq).trans s_0; have s3 := (hSw.cell (p := ⟨bq, oq + k * 2 + 1, none⟩) hbq).trans s_1; go_simp; try with_reducible rfl)
                    try simp only [List.getElem_toArray, List.getElem_cons_succ, List.getElem_cons_zero, Act.put, List.setIfInBounds_toArray, List.set_cons_zero, List.set_cons_succ]
                    refine wpAnyH_take (i := 3) (v := ?_) rfl (by kernel_rfl) (by kernel_rfl) (by kernel_rfl) (fun _ _ _ h => h) (Or.inl ⟨by kernel_rfl, ?_⟩) (by assumption) ?_
                    rotate_left
                    · (intro w' hSw; have s0 := (hSw.cell (p := ⟨bq, oq, none⟩) hbq).trans r_0; have s1 := (hSw.cell (p := ⟨bq, oq + 1, none⟩) hbq).trans r_1; have s2 := (hSw.cell (p := ⟨bq, oq + k * 2, none⟩) hbq).trans s_0; have s3 := (hSw.cell (p := ⟨bq, oq + k * 2 + 1, none⟩) hbq).trans s_1; go_simp; try with_reducible rfl)
                    try simp only [List.getElem_toArray, List.getElem_cons_succ, List.getElem_cons_zero, Act.put, List.setIfInBounds_toArray, List.set_cons_zero, List.set_cons_succ]
                    refine wpAnyH_take (i := 4) (v := ?_) rfl (by kernel_rfl) (by kernel_rfl) (by kernel_rfl) (fun _ _ _ h => h) (Or.inl ⟨by kernel_rfl, ?_⟩) (by assumption) ?_
                    rotate_left
                    · (intro w' hSw; have s0 := (hSw.cell (p := ⟨bq, oq, none⟩) hbq).trans r_0; have s1 := (hSw.cell (p := ⟨bq, oq + 1, none⟩) hbq).trans r_1; have s2 := (hSw.cell (p := ⟨bq, oq + k * 2, none⟩) hbq).trans s_0; have s3 := (hSw.cell (p := ⟨bq, oq + k * 2 + 1, none⟩) hbq).trans s_1; go_simp; try with_reducible rfl)
                    try simp only [List.getElem_toArray, List.getElem_cons_succ, List.getElem_cons_zero, Act.put, List.setIfInBounds_toArray, List.set_cons_zero, List.set_cons_succ]
                    refine wpAnyH_take (i := 5) (v := ?_) rfl (by kernel_rfl) (by kernel_rfl) (by kernel_rfl) (fun _ _ _ h => h) (Or.inl ⟨by kernel_rfl, ?_⟩) (by assumption) ?_
                    rotate_left
                    · (intro w' hSw; have s0 := (hSw.cell (p := ⟨bq, oq, none⟩) hbq).trans r_0; have s1 := (hSw.cell (p := ⟨bq, oq + 1, none⟩) hbq).trans r_1; have s2 := (hSw.cell (p := ⟨bq, oq + k * 2, none⟩) hbq).trans s_0; have s3 := (hSw.cell (p := ⟨bq, oq + k * 2 + 1, none⟩) hbq).trans s_1; go_simp; try with_reducible rfl)
                    try simp only [List.getElem_toArray, List.getElem_cons_succ, List.getElem_cons_zero, Act.put, List.setIfInBounds_toArray, List.set_cons_zero, List.set_cons_succ]
                    refine wpAnyH_take (i := 6) (v := ?_) rfl (by kernel_rfl) (by kernel_rfl) (by kernel_rfl) (fun _ _ _ h => h) (Or.inl ⟨by kernel_rfl, ?_⟩) (by assumption) ?_
                    rotate_left
                    · (intro w' hSw; have s0 := (hSw.cell (p := ⟨bq, oq, none⟩) hbq).trans r_0; have s1 := (hSw.cell (p := ⟨bq, oq + 1, none⟩) hbq).trans r_1; have s2 := (hSw.cell (p := ⟨bq, oq + k * 2, none⟩) hbq).trans s_0; have s3 := (hSw.cell (p := ⟨bq, oq + k * 2 + 1, none⟩) hbq).trans s_1; go_simp; try with_reducible rfl)
                    try simp only [List.getElem_toArray, List.getElem_cons_succ, List.getElem_cons_zero, Act.put, List.setIfInBounds_toArray, List.set_cons_zero, List.set_cons_succ]
                    refine wpAnyH_take (i := 7) (v := ?_) rfl (by kernel_rfl) (by kernel_rfl) (by kernel_rfl) (fun _ _ _ h => h) (Or.inl ⟨by kernel_rfl, ?_⟩) (by assumption) ?_
                    rotate_left
                    · (intro w' hSw; have s0 := (hSw.cell (p := ⟨bq, oq, none⟩) hbq).trans r_0; have s1 := (hSw.cell (p := ⟨bq, oq + 1, none⟩) hbq).trans r_1; have s2 := (hSw.cell (p := ⟨bq, oq + k * 2, none⟩) hbq).trans s_0; have s3 := (hSw.cell (p := ⟨bq, oq + k * 2 + 1, none⟩) hbq).trans s_1; go_simp; try with_reducible rfl)
                    try simp only [List.getElem_toArray, List.getElem_cons_succ, List.getElem_cons_zero, Act.put, List.setIfInBounds_toArray, List.set_cons_zero, List.set_cons_succ]
                    refine wpAnyH_take (i := 8) (v := ?_) rfl (by kernel_rfl) (by kernel_rfl) (by kernel_rfl) (fun _ _ _ h => h) (Or.inl ⟨by kernel_rfl, ?_⟩) (by assumption) ?_
                    rotate_left
                    · (intro w' hSw; have s0 := (hSw.cell (p := ⟨bq, oq, none⟩) hbq).trans r_0; have s1 := (hSw.cell (p := ⟨bq, oq + 1, none⟩) hbq).trans r_1; have s2 := (hSw.cell (p := ⟨bq, oq + k * 2, none⟩) hbq).trans s_0; have s3 := (hSw.cell (p := ⟨bq, oq + k * 2 + 1, none⟩) hbq).trans s_1; go_simp; try with_reducible rfl)
                    try simp only [List.getElem_toArray, List.getElem_cons_succ, List.getElem_cons_zero, Act.put, List.setIfInBounds_toArray, List.set_cons_zero, List.set_cons_succ]
                    refine wpAnyH_take (i := 9) (v := ?_) rfl (by kernel_rfl) (by kernel_rfl) (by kernel_rfl) (fun _ _ _ h => h) (Or.inl ⟨by kernel_rfl, ?_⟩) (by assumption) ?_
                    rotate_left
                    · (intro w' hSw; have s0 := (hSw.cell (p := ⟨bq, oq, none⟩) hbq).trans r_0; have s1 := (hSw.cell (p := ⟨bq, oq + 1, none⟩) hbq).trans r_1; have s2 := (hSw.cell (p := ⟨bq, oq + k * 2, none⟩) hbq).trans s_0; have s3 := (hSw.cell (p := ⟨bq, oq + k * 2 + 1, none⟩) hbq).trans s_1; go_simp; try with_reducible rfl)
                    try simp only [List.getElem_toArray, List.getElem_cons_succ, List.getElem_cons_zero, Act.put, List.setIfInBounds_toArray, List.set_cons_zero, List.set_cons_succ]
                    refine wpAnyH_take (i := 10) (v := ?_) rfl (by kernel_rfl) (by kernel_rfl) (by kernel_rfl) (fun _ _ _ h => h) (Or.inl ⟨by kernel_rfl, ?_⟩) (by assumption) ?_
                    rotate_left
                    · (intro w' hSw; have s0 := (hSw.cell (p := ⟨bq, oq, none⟩) hbq).trans r_0; have s1 := (hSw.cell (p := ⟨bq, oq + 1, none⟩) hbq).trans r_1; have s2 := (hSw.cell (p := ⟨bq, oq + k * 2, none⟩) hbq).trans s_0; have s3 := (hSw.cell (p := ⟨bq, oq + k * 2 + 1, none⟩) hbq).trans s_1; go_simp; try with_reducible rfl)
                    try simp only [List.getElem_toArray, List.getElem_cons_succ, List.getElem_cons_zero, Act.put, List.setIfInBounds_toArray, List.set_cons_zero, List.set_cons_succ]
                    refine wpAnyH_take (i := 11) (v := ?_) rfl (by kernel_rfl) (by kernel_rfl) (by kernel_rfl) (fun _ _ _ h => h) (Or.inl ⟨by kernel_rfl, ?_⟩) (by assumption) ?_
                    rotate_left
                    · (intro w' hSw; have s0 := (hSw.cell (p := ⟨bq, oq, none⟩) hbq).trans r_0; have s1 := (hSw.cell (p := ⟨bq, oq + 1, none⟩) hbq).trans r_1; have s2 := (hSw.cell (p := ⟨bq, oq + k * 2, none⟩) hbq).trans s_0; have s3 := (hSw.cell (p := ⟨bq, oq + k * 2 + 1, none⟩) hbq).trans s_1; go_simp; try with_reducible rfl)
                    try simp only [List.getElem_toArray, List.getElem_cons_succ, List.getElem_cons_zero, Act.put, List.setIfInBounds_toArray, List.set_cons_zero, List.set_cons_succ]
                    refine wpAnyH_take (i := 12) (v := ?_) rfl (by kernel_rfl) (by kernel_rfl) (by kernel_rfl) (fun _ _ _ h => h) (Or.inl ⟨by kernel_rfl, ?_⟩) (by assumption) ?_
                    rotate_left
                    · (intro w' hSw; have s0 := (hSw.cell (p := ⟨bq, oq, none⟩) hbq).trans r_0; have s1 := (hSw.cell (p := ⟨bq, oq + 1, none⟩) hbq).trans r_1; have s2 := (hSw.cell (p := ⟨bq, oq + k * 2, none⟩) hbq).trans s_0; have s3 := (hSw.cell (p := ⟨bq, oq + k * 2 + 1, none⟩) hbq).trans s_1; go_simp; try with_reducible rfl)
                    try simp only [List.getElem_toArray, List.getElem_cons_succ, List.getElem_cons_zero, Act.put, List.setIfInBounds_toArray, List.set_cons_zero, List.set_cons_succ]
                    refine wpAnyH_take (i := 13) (v := ?_) rfl (by kernel_rfl) (by kernel_rfl) (by kernel_rfl) (fun _ _ _ h => h) (Or.inl ⟨by kernel_rfl, ?_⟩) (by assumption) ?_
                    rotate_left
                    · (intro w' hSw; have s0 := (hSw.cell (p := ⟨bq, oq, none⟩) hbq).trans r_0; have s1 := (hSw.cell (p := ⟨bq, oq + 1, none⟩) hbq).trans r_1; have s2 := (hSw.cell (p := ⟨bq, oq + k * 2, none⟩) hbq).trans s_0; have s3 := (hSw.cell (p := ⟨bq, oq + k * 2 + 1, none⟩) hbq).trans s_1; go_simp; try with_reducible rfl)
                    try simp only [List.getElem_toArray, List.getElem_cons_succ, List.getElem_cons_zero, Act.put, List.setIfInBounds_toArray, List.set_cons_zero, List.set_cons_succ]
                    refine wpAnyH_take (i := 14) (v := ?_) rfl (by kernel_rfl) (by kernel_rfl) (by kernel_rfl) (fun _ _ _ h => h) (Or.inl ⟨by kernel_rfl, ?_⟩) (by assumption) ?_
                    rotate_left
                    · (intro w' hSw; have s0 := (hSw.cell (p := ⟨bq, oq, none⟩) hbq).trans r_0; have s1 := (hSw.cell (p := ⟨bq, oq + 1, none⟩) hbq).trans r_1; have s2 := (hSw.cell (p := ⟨bq, oq + k * 2, none⟩) hbq).trans s_0; have s3 := (hSw.cell (p := ⟨bq, oq + k * 2 + 1, none⟩) hbq).trans s_1; go_simp; try with_reducible rfl)
                    try simp only [List.getElem_toArray, List.getElem_cons_succ, List.getElem_cons_zero, Act.put, List.setIfInBounds_toArray, List.set_cons_zero, List.set_cons_succ]
                    refine wpAnyH_done (by kernel_rfl) ?_ _
                    clear hHeld
                    go_wp2_with fail
                    try rw [Exit.noGoto_ret]
                    go_ret
                    refine ⟨⟨_, rfl, HFAR.out, ?_⟩, HGR.out.drew⟩
                    have e : finP D9 = D9 := by
                      unfold finP
                      rw [if_neg (fun h => HC01.out (by have := h.2; rw [HHD.out, HLS.out] at this; injection this))]
                    rw [HX9.out, e]
                    exact HRD.out.below ((Below.refl _ _).drew)
                · have hq1i : ¬ (1 : Int) < (q2 : Int) := by omega
                  clear hrd hqx hD9
                  refine wp_region_held_drew (S := fun w' => Below Wx.heap.size Wx w') (by kernel_rfl) ((Below.refl _ _).drew) (fun hHeld => ?_)
                  try simp only [List.size_toArray, List.length_cons, List.length_nil, Nat.zero_add, Nat.reduceAdd, List.replicate, Array.replicate]
                  refine wpAnyH_take (i := 0) (v := ?_) rfl (by kernel_rfl) (by kernel_rfl) (by kernel_rfl) (fun _ _ _ h => h) (Or.inl ⟨by kernel_rfl, ?_⟩) (by assumption) ?_
                  rotate_left
                  · (intro w' hSw; skip; go_simp; try with_reducible rfl)
                  try simp only [List.getElem_toArray, List.getElem_cons_succ, List.getElem_cons_zero, Act.put, List.setIfInBounds_toArray, List.set_cons_zero, List.set_cons_succ]
                  refine wpAnyH_take (i := 1) (v := ?_) rfl (by kernel_rfl) (by kernel_rfl) (by kernel_rfl) (fun _ _ _ h => h) (Or.inl ⟨by kernel_rfl, ?_⟩) (by assumption) ?_
                  rotate_left
                  · (intro w' hSw; skip; go_simp; try with_reducible rfl)
                  try simp only [List.getElem_toArray, List.getElem_cons_succ, List.getElem_cons_zero, Act.put, List.setIfInBounds_toArray, List.set_cons_zero, List.set_cons_succ]
                  refine wpAnyH_take (i := 2) (v := ?_) rfl (by kernel_rfl) (by kernel_rfl) (by kernel_rfl) (fun _ _ _ h => h) (Or.inl ⟨by kernel_rfl, ?_⟩) (by assumption) ?_
                  rotate_left
                  · (intro w' hSw; skip; go_simp; try with_reducible rfl)
                  try simp only [List.getElem_toArray, List.getElem_cons_succ, List.getElem_cons_zero, Act.put, List.setIfInBounds_toArray, List.set_cons_zero, List.set_cons_succ]
                  refine wpAnyH_take (i := 3) (v := ?_) rfl (by kernel_rfl) (by kernel_rfl) (by kernel_rfl) (fun _ _ _ h => h) (Or.inl ⟨by kernel_rfl, ?_⟩) (by assumption) ?_
                  rotate_left
                  · (intro w' hSw; skip; go_simp; try with_reducible rfl)
                  try simp only [List.getElem_toArray, List.getElem_cons_succ, List.getElem_cons_zero, Act.put, List.setIfInBounds_toArray, List.set_cons_zero, List.set_cons_succ]
                  refine wpAnyH_take (i := 4) (v := undef) rfl (by kernel_rfl) (by kernel_rfl) (by kernel_rfl) (fun _ _ _ h => h) (Or.inr ⟨by kernel_rfl, rfl⟩) (by assumption) ?_
                  try simp only [List.getElem_toArray, List.getElem_cons_succ, List.getElem_cons_zero, Act.put, List.setIfInBounds_toArray, List.set_cons_zero, List.set_cons_succ]
                  refine wpAnyH_take (i := 5) (v := undef) rfl (by kernel_rfl) (by kernel_rfl) (by kernel_rfl) (fun _ _ _ h => h) (Or.inr ⟨by kernel_rfl, rfl⟩) (by assumption) ?_
                  try simp only [List.getElem_toArray, List.getElem_cons_succ, List.getElem_cons_zero, Act.put, List.setIfInBounds_toArray, List.set_cons_zero, List.set_cons_succ]
                  refine wpAnyH_take (i := 6) (v := undef) rfl (by kernel_rfl) (by kernel_rfl) (by kernel_rfl) (fun _ _ _ h => h) (Or.inr ⟨by kernel_rfl, rfl⟩) (by assumption) ?_
                  try simp only [List.getElem_toArray, List.getElem_cons_succ, List.getElem_cons_zero, Act.put, List.setIfInBounds_toArray, List.set_cons_zero, List.set_cons_succ]
                  refine wpAnyH_take (i := 7) (v := undef) rfl (by kernel_rfl) (by kernel_rfl) (by kernel_rfl) (fun _ _ _ h => h) (Or.inr ⟨by kernel_rfl, rfl⟩) (by assumption) ?_
                  try simp only [List.getElem_toArray, List.getElem_cons_succ, List.getElem_cons_zero, Act.put, List.setIfInBounds_toArray, List.set_cons_zero, List.set_cons_succ]
                  refine wpAnyH_take (i := 8) (v := undef) rfl (by kernel_rfl) (by kernel_rfl) (by kernel_rfl) (fun _ _ _ h => h) (Or.inr ⟨by kernel_rfl, rfl⟩) (by assumption) ?_
                  try simp only [List.getElem_toArray, List.getElem_cons_succ, List.getElem_cons_zero, Act.put, List.setIfInBounds_toArray, List.set_cons_zero, List.set_cons_succ]
                  refine wpAnyH_take (i := 9) (v := undef) rfl (by kernel_rfl) (by kernel_rfl) (by kernel_rfl) (fun _ _ _ h => h) (Or.inr ⟨by kernel_rfl, rfl⟩) (by assumption) ?_
                  try simp only [List.getElem_toArray, List.getElem_cons_succ, List.getElem_cons_zero, Act.put, List.setIfInBounds_toArray, List.set_cons_zero, List.set_cons_succ]
                  refine wpAnyH_take (i := 10) (v := undef) rfl (by kernel_rfl) (by kernel_rfl) (by kernel_rfl) (fun _ _ _ h => h) (Or.inr ⟨by kernel_rfl, rfl⟩) (by assumption) ?_
                  try simp only [List.getElem_toArray, List.getElem_cons_succ, List.getElem_cons_zero, Act.put, List.setIfInBounds_toArray, List.set_cons_zero, List.set_cons_succ]
                  refine wpAnyH_take (i := 11) (v := undef) rfl (by kernel_rfl) (by kernel_rfl) (by kernel_rfl) (fun _ _ _ h => h) (Or.inr ⟨by kernel_rfl, rfl⟩) (by assumption) ?_
                  try simp only [List.getElem_toArray, List.getElem_cons_succ, List.getElem_cons_zero, Act.put, List.setIfInBounds_toArray, List.set_cons_zero, List.set_cons_succ]
                  refine wpAnyH_take (i := 12) (v := undef) rfl (by kernel_rfl) (by kernel_rfl) (by kernel_rfl) (fun _ _ _ h => h) (Or.inr ⟨by kernel_rfl, rfl⟩) (by assumption) ?_
                  try simp only [List.getElem_toArray, List.getElem_cons_succ, List.getElem_cons_zero, Act.put, List.setIfInBounds_toArray, List.set_cons_zero, List.set_cons_succ]
                  refine wpAnyH_take (i := 13) (v := undef) rfl (by kernel_rfl) (by kernel_rfl) (by kernel_rfl) (fun _ _ _ h => h) (Or.inr ⟨by kernel_rfl, rfl⟩) (by assumption) ?_
                  try simp only [List.getElem_toArray, List.getElem_cons_succ, List.getElem_cons_zero, Act.put, List.setIfInBounds_toArray, List.set_cons_zero, List.set_cons_succ]
                  refine wpAnyH_take (i := 14) (v := ?_) rfl (by kernel_rfl) (by kernel_rfl) (by kernel_rfl) (fun _ _ _ h => h) (Or.inl ⟨by kernel_rfl, ?_⟩) (by assumption) ?_
                  rotate_left
                  · (intro w' hSw; skip; go_simp; try with_reducible rfl)
                  try simp only [List.getElem_toArray, List.getElem_cons_succ, List.getElem_cons_zero, Act.put, List.setIfInBounds_toArray, List.set_cons_zero, List.set_cons_succ]
                  refine wpAnyH_done (by kernel_rfl) ?_ _
                  clear hHeld
                  go_wp2_with fail
                  try rw [Exit.noGoto_ret]
                  go_ret
                  refine ⟨⟨_, rfl, HFAR.out, ?_⟩, HGR.out.drew⟩
                  have e : finP D9 = D9 := by
                    unfold finP
                    rw [if_neg (fun h => hq1 (by rw [← HQX.out]; exact h.1))]
                  rw [HX9.out, e]
                  exact HRD.out.below ((Below.refl _ _).drew)
              · have hbn : (((i : Int) + 1) == (n : Int)) = false := by rw [beq_eq_false_iff_ne]; omega
                have hi1 : i + 1 < n := by omega
                have HQ1 := Lib.hid (show qn = i + 1 by rw [← HQN.out]; exact Nat.mod_eq_of_lt hi1)
                clear hlast
                go_wp2_with fail
                refine ⟨Lib.hid ⟨i + 1, y, A2, q2, c2, hi1, by rw [← HQ1.out]; exact HK1.out, rfl, rfl, HIE.out⟩, ?_⟩
                simp only [intOf]
                omega
        · have hpy : p ≠ y.1 := by
            rw [HK3.out, ← HP.out]; intro e
            have hh := crk_h (HK5.out 0 k4)
            have := step_inj (by omega) e
            have := HJN.out
            omega
          have hne := ptNe_yes hpy
          clear hpy
          go_wp2_with fail
          refine wp_region_held_drew (S := fun w' => Below wr.heap.size wr w') (by kernel_rfl) ((Below.refl _ _).drew) (fun hHeld => ?_)
          try simp only [List.size_toArray, List.length_cons, List.length_nil, Nat.zero_add, Nat.reduceAdd, List.replicate, Array.replicate]
          refine wpAnyH_take (i := 0) (v := ?_) rfl (by kernel_rfl) (by kernel_rfl) (by kernel_rfl) (fun _ _ _ h => h) (Or.inl ⟨by kernel_rfl, ?_⟩) (by assumption) ?_
          rotate_left
          · (intro w' hSw; have s0 := (hSw.cell (p := ⟨w.heap.size, 0, none⟩) p_l).trans p_0; have s1 := (hSw.cell (p := ⟨w.heap.size, 1, none⟩) p_l).trans p_1; have s2 := (hSw.cell (p := ⟨b, off + qn * 2, none⟩) hblr).trans va; have s3 := (hSw.cell (p := ⟨b, off + qn * 2 + 1, none⟩) hblr).trans vb; go_simp; try with_reducible rfl)
          try simp only [List.getElem_toArray, List.getElem_cons_succ, List.getElem_cons_zero, Act.put, List.setIfInBounds_toArray, List.set_cons_zero, List.set_cons_succ]
          refine wpAnyH_take (i := 1) (v := ?_) rfl (by kernel_rfl) (by kernel_rfl) (by kernel_rfl) (fun _ _ _ h => h) (Or.inl ⟨by kernel_rfl, ?_⟩) (by assumption) ?_
          rotate_left
          · (intro w' hSw; have s0 := (hSw.cell (p := ⟨w.heap.size, 0, none⟩) p_l).trans p_0; have s1 := (hSw.cell (p := ⟨w.heap.size, 1, none⟩) p_l).trans p_1; have s2 := (hSw.cell (p := ⟨b, off + qn * 2, none⟩) hblr).trans va; have s3 := (hSw.cell (p := ⟨b, off + qn * 2 + 1, none⟩) hblr).trans vb; go_simp; try with_reducible rfl)
          try simp only [List.getElem_toArray, List.getElem_cons_succ, List.getElem_cons_zero, Act.put, List.setIfInBounds_toArray, List.set_cons_zero, List.set_cons_succ]
          refine wpAnyH_take (i := 2) (v := ?_) rfl (by kernel_rfl) (by kernel_rfl) (by kernel_rfl) (fun _ _ _ h => h) (Or.inl ⟨by kernel_rfl, ?_⟩) (by assumption) ?_
          rotate_left
          · (intro w' hSw; have s0 := (hSw.cell (p := ⟨w.heap.size, 0, none⟩) p_l).trans p_0; have s1 := (hSw.cell (p := ⟨w.heap.size, 1, none⟩) p_l).trans p_1; have s2 := (hSw.cell (p := ⟨b, off + qn * 2, none⟩) hblr).trans va; have s3 := (hSw.cell (p := ⟨b, off + qn * 2 + 1, none⟩) hblr).trans vb; go_simp; try with_reducible rfl)
          try simp only [List.getElem_toArray, List.getElem_cons_succ, List.getElem_cons_zero, Act.put, List.setIfInBounds_toArray, List.set_cons_zero, List.set_cons_succ]
          refine wpAnyH_take (i := 3) (v := ?_) rfl (by kernel_rfl) (by kernel_rfl) (by kernel_rfl) (fun _ _ _ h => h) (Or.inl ⟨by kernel_rfl, ?_⟩) (by assumption) ?_
          rotate_left
          · (intro w' hSw; have s0 := (hSw.cell (p := ⟨w.heap.size, 0, none⟩) p_l).trans p_0; have s1 := (hSw.cell (p := ⟨w.heap.size, 1, none⟩) p_l).trans p_1; have s2 := (hSw.cell (p := ⟨b, off + qn * 2, none⟩) hblr).trans va; have s3 := (hSw.cell (p := ⟨b, off + qn * 2 + 1, none⟩) hblr).trans vb; go_simp; try with_reducible rfl)
          try simp only [List.getElem_toArray, List.getElem_cons_succ, List.getElem_cons_zero, Act.put, List.setIfInBounds_toArray, List.set_cons_zero, List.set_cons_succ]
          refine wpAnyH_take (i := 4) (v := ?_) rfl (by kernel_rfl) (by kernel_rfl) (by kernel_rfl) (fun _ _ _ h => h) (Or.inl ⟨by kernel_rfl, ?_⟩) (by assumption) ?_
          rotate_left
          · (intro w' hSw; have s0 := (hSw.cell (p := ⟨w.heap.size, 0, none⟩) p_l).trans p_0; have s1 := (hSw.cell (p := ⟨w.heap.size, 1, none⟩) p_l).trans p_1; have s2 := (hSw.cell (p := ⟨b, off + qn * 2, none⟩) hblr).trans va; have s3 := (hSw.cell (p := ⟨b, off + qn * 2 + 1, none⟩) hblr).trans vb; go_simp; try with_reducible rfl)
          try simp only [List.getElem_toArray, List.getElem_cons_succ, List.getElem_cons_zero, Act.put, List.setIfInBounds_toArray, List.set_cons_zero, List.set_cons_succ]
          refine wpAnyH_take (i := 5) (v := ?_) rfl (by kernel_rfl) (by kernel_rfl) (by kernel_rfl) (fun _ _ _ h => h) (Or.inl ⟨by kernel_rfl, ?_⟩) (by assumption) ?_
          rotate_left
          · (intro w' hSw; have s0 := (hSw.cell (p := ⟨w.heap.size, 0, none⟩) p_l).trans p_0; have s1 := (hSw.cell (p := ⟨w.heap.size, 1, none⟩) p_l).trans p_1; have s2 := (hSw.cell (p := ⟨b, off + qn * 2, none⟩) hblr).trans va; have s3 := (hSw.cell (p := ⟨b, off + qn * 2 + 1, none⟩) hblr).trans vb; go_simp; try with_reducible rfl)
          try simp only [List.getElem_toArray, List.getElem_cons_succ, List.getElem_cons_zero, Act.put, List.setIfInBounds_toArray, List.set_cons_zero, List.set_cons_succ]
          refine wpAnyH_take (i := 6) (v := ?_) rfl (by kernel_rfl) (by kernel_rfl) (by kernel_rfl) (fun _ _ _ h => h) (Or.inl ⟨by kernel_rfl, ?_⟩) (by assumption) ?_
          rotate_left
          · (intro w' hSw; have s0 := (hSw.cell (p := ⟨w.heap.size, 0, none⟩) p_l).trans p_0; have s1 := (hSw.cell (p := ⟨w.heap.size, 1, none⟩) p_l).trans p_1; have s2 := (hSw.cell (p := ⟨b, off + qn * 2, none⟩) hblr).trans va; have s3 := (hSw.cell (p := ⟨b, off + qn * 2 + 1, none⟩) hblr).trans vb; go_simp; try with_reducible rfl)
          try simp only [List.getElem_toArray, List.getElem_cons_succ, List.getElem_cons_zero, Act.put, List.setIfInBounds_toArray, List.set_cons_zero, List.set_cons_succ]
          refine wpAnyH_take (i := 7) (v := ?_) rfl (by kernel_rfl) (by kernel_rfl) (by kernel_rfl) (fun _ _ _ h => h) (Or.inl ⟨by kernel_rfl, ?_⟩) (by assumption) ?_
          rotate_left
          · (intro w' hSw; have s0 := (hSw.cell (p := ⟨w.heap.size, 0, none⟩) p_l).trans p_0; have s1 := (hSw.cell (p := ⟨w.heap.size, 1, none⟩) p_l).trans p_1; have s2 := (hSw.cell (p := ⟨b, off + qn * 2, none⟩) hblr).trans va; have s3 := (hSw.cell (p := ⟨b, off + qn * 2 + 1, none⟩) hblr).trans vb; go_simp; try with_reducible rfl)
          try simp only [List.getElem_toArray, List.getElem_cons_succ, List.getElem_cons_zero, Act.put, List.setIfInBounds_toArray, List.set_cons_zero, List.set_cons_succ]
          refine wpAnyH_take (i := 8) (v := ?_) rfl (by kernel_rfl) (by kernel_rfl) (by kernel_rfl) (fun _ _ _ h => h) (Or.inl ⟨by kernel_rfl, ?_⟩) (by assumption) ?_
          rotate_left
          · (intro w' hSw; have s0 := (hSw.cell (p := ⟨w.heap.size, 0, none⟩) p_l).trans p_0; have s1 := (hSw.cell (p := ⟨w.heap.size, 1, none⟩) p_l).trans p_1; have s2 := (hSw.cell (p := ⟨b, off + qn * 2, none⟩) hblr).trans va; have s3 := (hSw.cell (p := ⟨b, off + qn * 2 + 1, none⟩) hblr).trans vb; go_simp; try with_reducible rfl)
          try simp only [List.getElem_toArray, List.getElem_cons_succ, List.getElem_cons_zero, Act.put, List.setIfInBounds_toArray, List.set_cons_zero, List.set_cons_succ]
          refine wpAnyH_take (i := 9) (v := ?_) rfl (by kernel_rfl) (by kernel_rfl) (by kernel_rfl) (fun _ _ _ h => h) (Or.inl ⟨by kernel_rfl, ?_⟩) (by assumption) ?_
          rotate_left
          · (intro w' hSw; have s0 := (hSw.cell (p := ⟨w.heap.size, 0, none⟩) p_l).trans p_0; have s1 := (hSw.cell (p := ⟨w.heap.size, 1, none⟩) p_l).trans p_1; have s2 := (hSw.cell (p := ⟨b, off + qn * 2, none⟩) hblr).trans va; have s3 := (hSw.cell (p := ⟨b, off + qn * 2 + 1, none⟩) hblr).trans vb; go_simp; try with_reducible rfl)
          try simp only [List.getElem_toArray, List.getElem_cons_succ, List.getElem_cons_zero, Act.put, List.setIfInBounds_toArray, List.set_cons_zero, List.set_cons_succ]
          refine wpAnyH_done (by kernel_rfl) ?_ _
          clear hHeld
          go_wp2_with fail
          have hck := HK5.out j (by have := HJN.out; omega)
          have hhr : 0 ≤ l.2.1 ∧ l.2.1 < 4 := (crk_iff.1 hck).1
          have hnr := crk_near HS.out hck
          rw [HP.out] at hnr
          obtain ⟨p', hp'⟩ : ∃ p', fromP l.2.1 p = p' := ⟨_, rfl⟩
          rw [hp'] at hnr
          have hp6 : near6 p := by have := hnr.1; unfold near5 at this; unfold near6; omega
          have hdv := dvec_in l.2.1
          have ew : p' = (p.1 + (dvec l.2.1).1, p.2 + (dvec l.2.1).2) := by rw [← hp']; exact from_dvec hhr
          have ew1 : IntKind.i64.wrap (p.1 + (dvec l.2.1).1) = p'.1 := by rw [ew]; exact IntWalk.i64_in _ (by unfold near6 at hp6; omega)
          have ew2 : IntKind.i64.wrap (p.2 + (dvec l.2.1).2) = p'.2 := by rw [ew]; exact IntWalk.i64_in _ (by unfold near6 at hp6; omega)
          have HPP := Lib.hid hp'
          clear ew hp' hnr hck
          (go_at_call 76; (refine (leftW_any p l.2.1 _ hp6 hhr).mono ?_); rintro e W4 ⟨rfl, hb4⟩)
          simp only []
          have hbr4 : Below wr.heap.size wr W4 := ((Below.refl _ _).drew).trans hb4
          have ho4 := own_below HII.out.own hbr4
          have vp4 := HII.out.vp.below hbr4
          have vd4 := HII.out.vd.below hbr4
          obtain ⟨D, hD⟩ : ∃ D, ded (rawTo L i ++ legR (l.1, l.2.1, j)) = D := ⟨_, rfl⟩
          have hDq := HII.out.hq
          rw [hD] at ho4 hDq
          have hq2 : q2 ≤ 1000000 := by
            have h1 := raw_small HL.out HLI.out (j := j) (by have := HJN.out; omega)
            rw [hD, hDq] at h1
            have := HLE.out
            omega
          have hbase : gd + 1 ≤ W4.heap.size := by have := hbr4.size; omega
          have hbw4 := HII.out.grw.trans (hbr4.mono HII.out.grw.size)
          have HD := Lib.hid hD
          have HDQ := Lib.hid hDq
          have HB4 := Lib.hid hbw4
          clear hbr4 hb4 hD hbw4 p_0 p_1 p_l d_0 d_1 d_l va vb hblr hne
          go_wp2_with fail
          (go_at_call 75; (refine (addW_any (gd + 1) A2 q2 c2 D (lcP p l.2.1) W4 ho4 hDq hq2 hbase).mono ?_); rintro e W5 ⟨v, rfl, ho5, hg5, hbel5, hat5⟩)
          simp only []
          obtain ⟨A5, c5, rfl⟩ := own_slc ho5
          obtain ⟨q5, hq5⟩ : ∃ q5, (addP D (lcP p l.2.1)).length = q5 := ⟨_, rfl⟩
          have hgs : w.heap.size < gd + 1 := by omega
          have vp5 : Blk W5 w.heap.size 60 #[.int .i64 p.1, .int .i64 p.2] := by rw [← HP.out]; exact (hbel5.block _ hgs).trans vp4
          have vd5 : Blk W5 gd 60 #[.int .i64 (dvec l.2.1).1, .int .i64 (dvec l.2.1).2] := (hbel5.block _ (Nat.lt_succ_self _)).trans vd4
          have p5_0 := vp5.cell 0
          have p5_1 := vp5.cell 1
          have f5_0 := vp5.frozen 0
          have f5_1 := vp5.frozen 1
          have l5 := vp5.lt
          have d5_0 := vd5.cell 0
          have d5_1 := vd5.cell 1
          have d5_l := vd5.lt
          have hgne : ¬ gd = w.heap.size := by omega
          have HV5 := Lib.hid vp5
          have HVD5 := Lib.hid vd5
          have HO5 := Lib.hid ho5
          have HB5 := Lib.hid (HB4.out.trans (hbel5.mono (by omega)))
          have HQ5 := Lib.hid hq5
          rw [hq5]
          clear ho5 hg5 hbel5 hat5 vp5 vd5 vp4 vd4 ho4 hDq hq5
          go_wp2_with fail
          obtain ⟨N', rfl⟩ : ∃ N', N = N' + 1 := ⟨N - 1, by omega⟩
          have e : stepN l.2.1 (j + 1) l.1 = p' := by show fromP _ (stepN l.2.1 j l.1) = _; rw [HP.out, HPP.out]
          have e' : ded (rawTo L i ++ legR (l.1, l.2.1, j + 1)) = addP D (lcP p l.2.1) := by
            rw [legR_succ, ← List.append_assoc, ded_snoc, HD.out, HP.out]
          have hfin : InR w gd L i l N' (.slice A5 q5 c5) ((W5.setCell ⟨w.heap.size, 0, none⟩ (.int .i64 p'.1)).setCell ⟨w.heap.size, 1, none⟩ (.int .i64 p'.2)) := by
            refine ⟨j + 1, A5, q5, c5, by have := HJN.out; omega, rfl, ⟨⟨Nat.le_refl _, hgd2⟩, ?_, ?_, ?_, ?_, ?_⟩⟩
            · rw [e]; exact (HV5.out.set_ 0 _).set_ 1 _
            · exact (HVD5.out.far (p := ⟨w.heap.size, 0, none⟩) hgne _).far (p := ⟨w.heap.size, 1, none⟩) hgne _
            · rw [e']
              have h1 := HO5.out
              rw [HQ5.out] at h1
              have n1 := own_ne h1 HV5.out (by decide)
              have g1 := grownBy_set (w := W5) (p := ⟨w.heap.size, 0, none⟩) (.int .i64 p'.1)
              have g2 := grownBy_set (w := W5.setCell ⟨w.heap.size, 0, none⟩ (.int .i64 p'.1)) (p := ⟨w.heap.size, 1, none⟩) (.int .i64 p'.2)
              have h2 := h1.kept g1 (.inr n1)
              rw [HQ5.out]
              exact h2.kept g2 (.inr n1)
            · rw [e']; exact HQ5.out
            · exact (HB5.out.setCell (p := ⟨w.heap.size, 0, none⟩) (Nat.le_refl _) _).setCell (p := ⟨w.heap.size, 1, none⟩) (Nat.le_refl _) _
          exact ⟨⟨N', Lib.hid hfin⟩, by rw [HNM.out]; exact Nat.lt_succ_of_le (minN_le hfin)⟩
end Go.Proofs.YtneelidbgigehaaGreat

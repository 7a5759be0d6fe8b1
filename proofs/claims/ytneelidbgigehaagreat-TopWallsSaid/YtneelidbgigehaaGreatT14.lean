/- Lemmas: TrcLp. -/
import Derived.Test.YtneelidbgigehaaGreatT12
import Derived.Test.YtneelidbgigehaaGreatT13
import Derived.Test.YtneelidbgigehaaGreatT07
import Derived.Test.YtneelidbgigehaaGreatShelf
/- The walk along a loop of cracks: walked. (joined: TrcLoop TrcSort) -/
/- The walk along a loop of cracks: walked. -/
namespace Go.Proofs.YtneelidbgigehaaGreat
set_option linter.unusedSimpArgs false
set_option linter.unusedVariables false
set_option maxRecDepth 100000
open Go Go.Maps Go.RowKit Trc Reg
attribute [local go_sem] Kin.cell Kin.frozen Kin.lt0 Kin.lt1 Kin.lt2 Kin.lt3 run_mkf
theorem exists_min (p : Nat → Prop) (h : ∃ n, p n) : ∃ n, p n ∧ ∀ m, p m → n ≤ m := by
  obtain ⟨n, hn⟩ := h
  induction n using Nat.strongRecOn with
  | _ n ih =>
    by_cases h : ∃ m, m < n ∧ p m
    · obtain ⟨m, hm, hp⟩ := h; exact ih m hm hp
    · exact ⟨n, hn, fun m hm => Classical.byContradiction fun hlt => h ⟨m, Nat.lt_of_not_le hlt, hm⟩⟩
/-- the least number of which something holds: a measure for loops whose rounds are counted by a letter -/
noncomputable def minN (p : Nat → Prop) : Nat := by
  classical exact if h : ∃ n, p n then Classical.choose (exists_min p h) else 0
theorem minN_le {p : Nat → Prop} {n : Nat} (h : p n) : minN p ≤ n := by
  unfold minN
  rw [dif_pos ⟨n, h⟩]
  exact (Classical.choose_spec (exists_min p ⟨n, h⟩)).2 n h
theorem minN_is {p : Nat → Prop} (h : ∃ n, p n) : p (minN p) := by
  unfold minN
  rw [dif_pos h]
  exact (Classical.choose_spec (exists_min p h)).1
theorem ptEq_yes (a : Pt) (w : World) : (binOp .eql 60 (.agg #[.int .i64 a.1, .int .i64 a.2]) (.agg #[.int .i64 a.1, .int .i64 a.2])).run Tryz.prog w = .ok (.bool true) w := by
  simp [go_sem]
theorem ptEq_no {a b : Pt} (h : a ≠ b) (w : World) : (binOp .eql 60 (.agg #[.int .i64 a.1, .int .i64 a.2]) (.agg #[.int .i64 b.1, .int .i64 b.2])).run Tryz.prog w = .ok (.bool false) w := by
  by_cases h1 : a.1 = b.1
  · have h2 : ¬ a.2 = b.2 := fun h2 => h (Prod.ext h1 h2)
    simp [go_sem, h1, h2]
  · simp [go_sem, h1]
theorem run_idxH (a b c : Value) (w : World) (ha : a.oneCell' = true) (hb : b.oneCell' = true) (hc : c.oneCell' = true) :
    (Instr.index 108 (.agg #[a, b, c]) (.int .i64 0)).run Tryz.prog w = .ok a w ∧ (Instr.index 108 (.agg #[a, b, c]) (.int .i64 1)).run Tryz.prog w = .ok b w ∧ (Instr.index 108 (.agg #[a, b, c]) (.int .i64 2)).run Tryz.prog w = .ok c w := by
  have h : Tryz.prog.underlying 108 = some (.array 3 101) := by kernel_rfl
  refine ⟨?_, ?_, ?_⟩ <;> simp [Instr.index, run_underlying h, asIntOf, go_sem, part]
def near5 (p : Pt) : Prop := -5000 ≤ p.1 ∧ p.1 ≤ 5000 ∧ -5000 ≤ p.2 ∧ p.2 ≤ 5000
def near6 (p : Pt) : Prop := -6000 ≤ p.1 ∧ p.1 ≤ 6000 ∧ -6000 ≤ p.2 ∧ p.2 ≤ 6000
theorem grownBy_new {w w' : World} {row : Option Nat} (h : w.grownBy w' row) {p : Addr} (hp : w.heap.size ≤ p.block) (u : Value) : w.grownBy (w'.setCell p u) row := by
  have h2 : w'.grownBy (w'.setCell p u) (some p.block) := grownBy_set u
  exact ⟨h2.os.trans h.os, h2.tape.trans h.tape, h2.output.trans h.output, Nat.le_trans h.size h2.size, fun i hi hr => (h2.block i (Nat.lt_of_lt_of_le hi h.size) (by intro e; injection e with e; omega)).trans (h.block i hi hr)⟩
theorem grownBy_row {w wr w1 : World} {r row : Option Nat} (h : w.grownBy wr r) (hg : wr.grownBy w1 row) (hr : ∀ k, row = some k → w.heap.size ≤ k) : w.grownBy w1 r :=
  ⟨hg.os.trans h.os, hg.tape.trans h.tape, hg.output.trans h.output, Nat.le_trans h.size hg.size, fun i hi hne => (hg.block i (Nat.lt_of_lt_of_le hi h.size) (fun e => by have := hr i e.symm; omega)).trans (h.block i hi hne)⟩
theorem near6_wf {p : Pt} (h : near6 p) : wfK p := wfK_of (by unfold near6 at h; omega)
theorem near_from {p : Pt} (h : near5 p) (d : Int) : near6 (fromP d p) := by
  unfold near5 at h; unfold near6 fromP
  (repeat' split) <;> simp only <;> omega
theorem lf_h {h : Int} : 0 ≤ lf h ∧ lf h < 4 := by unfold lf; omega
theorem rt_h {h : Int} : 0 ≤ rt h ∧ rt h < 4 := by unfold rt; omega
/-- the variables start, result, out, p of the walk at the blocks gs, gs + 1, gs + 3, gp, and the points so far -/
structure WkV (w : World) (m gs gp : Nat) (s : Pt) (wr : World) (p : Pt) (acc : List Pt) (A : Option Addr) (q c : Nat) : Prop where
  hz : gs + 1 + 1 + 1 + 1 = gp
  vs : Blk wr gs 60 #[.int .i64 s.1, .int .i64 s.2]
  vr : Blk wr (gs + 1) 53 #[.slice none 0 0]
  vo : Blk wr (gs + 1 + 1 + 1) 53 #[.slice A q c]
  vp : Blk wr gp 60 #[.int .i64 p.1, .int .i64 p.2]
  own : wr.ownsRow gs 60 2 (.slice A q c) q (acc.flatMap encPt)
  ap : ∀ k, (Value.slice A q c).ownBlock = some k → k ≠ gs ∧ k ≠ gp
  hq : acc.length = q
  grw : w.grownBy wr (some m)
theorem CkM.nblk {base m n g : Nat} {w : World} {R : List Ck} {t : TypeId} {cs : Array Value} (h : CkM base w m n R) (hb : Blk w g t cs) : g ≠ m := by
  obtain ⟨F, h⟩ := h; exact h.map.not_blk hb
theorem CkM.nown {base base' m n k size : Nat} {w : World} {R : List Ck} {u : Value} {e : TypeId} {xs : List Value} (h : CkM base w m n R) (hu : w.ownsRow base' e size u k xs) : u.ownBlock ≠ some m := by
  obtain ⟨F, h⟩ := h; exact h.map.not_own hu
section
variable {w : World} {m gs gp : Nat} {s : Pt} {wr w' : World} {p : Pt} {acc : List Pt} {A : Option Addr} {q c : Nat}
theorem WkV.map {base nn : Nat} {Rn : List Ck} (h : WkV w m gs gp s wr p acc A q c) (hC : CkM base wr m nn Rn) (hg : wr.grownBy w' (some m)) : WkV w m gs gp s w' p acc A q c :=
  have ne : ∀ {g : Nat} {t : TypeId} {cs : Array Value}, Blk wr g t cs → Blk w' g t cs := fun hb => hb.grown hg (fun e => by injection e with e; exact hC.nblk hb e)
  ⟨h.hz, ne h.vs, ne h.vr, ne h.vo, ne h.vp, h.own.kept hg (.inr (hC.nown h.own)), h.ap, h.hq, grownBy_trans h.grw hg⟩
theorem WkV.below (h : WkV w m gs gp s wr p acc A q c) (hb : Below wr.heap.size wr w') : WkV w m gs gp s w' p acc A q c :=
  ⟨h.hz, h.vs.below hb, h.vr.below hb, h.vo.below hb, h.vp.below hb, own_below h.own hb, h.ap, h.hq, grownBy_trans h.grw (below_grownBy hb)⟩
/-- another p -/
theorem WkV.setp (h : WkV w m gs gp s wr p acc A q c) (hgs : gs = w.heap.size) (p' : Pt) : WkV w m gs gp s ((wr.setCell ⟨gp, 0, none⟩ (.int .i64 p'.1)).setCell ⟨gp, 1, none⟩ (.int .i64 p'.2)) p' acc A q c := by
  have hz := h.hz
  have far : ∀ {g : Nat} {t : TypeId} {cs : Array Value}, Blk wr g t cs → g ≠ gp → Blk ((wr.setCell ⟨gp, 0, none⟩ (.int .i64 p'.1)).setCell ⟨gp, 1, none⟩ (.int .i64 p'.2)) g t cs := fun hb hn => (hb.far (p := ⟨gp, 0, none⟩) hn _).far (p := ⟨gp, 1, none⟩) hn _
  have g1 : wr.grownBy (wr.setCell ⟨gp, 0, none⟩ (.int .i64 p'.1)) (some gp) := grownBy_set _
  have g2 : wr.grownBy ((wr.setCell ⟨gp, 0, none⟩ (.int .i64 p'.1)).setCell ⟨gp, 1, none⟩ (.int .i64 p'.2)) (some gp) := grownBy_trans g1 (grownBy_set _)
  refine ⟨hz, far h.vs (by omega), far h.vr (by omega), far h.vo (by omega), ?_, h.own.kept g2 ?_, h.ap, h.hq, grownBy_new (grownBy_new h.grw (p := ⟨gp, 0, none⟩) (by show w.heap.size ≤ gp; omega) _) (p := ⟨gp, 1, none⟩) (by show w.heap.size ≤ gp; omega) _⟩
  · have := (h.vp.set_ 0 (.int .i64 p'.1)).set_ 1 (.int .i64 p'.2)
    exact this
  · cases e : (Value.slice A q c).ownBlock with
    | none => exact .inl rfl
    | some k => right; intro e2; injection e2 with e2; exact (h.ap k e).2 e2
/-- a point more: behind the append, ahead of the store -/
structure WkA (w : World) (m gs gp : Nat) (s : Pt) (wr : World) (p : Pt) (acc : List Pt) (A : Option Addr) (q c : Nat) (A0 : Option Addr) (q0 c0 : Nat) : Prop where
  hz : gs + 1 + 1 + 1 + 1 = gp
  vs : Blk wr gs 60 #[.int .i64 s.1, .int .i64 s.2]
  vr : Blk wr (gs + 1) 53 #[.slice none 0 0]
  vo : Blk wr (gs + 1 + 1 + 1) 53 #[.slice A0 q0 c0]
  vp : Blk wr gp 60 #[.int .i64 p.1, .int .i64 p.2]
  own : wr.ownsRow gs 60 2 (.slice A q c) q (acc.flatMap encPt)
  ap : ∀ k, (Value.slice A q c).ownBlock = some k → k ≠ gs ∧ k ≠ gp
  hq : acc.length = q
  grw : w.grownBy wr (some m)
theorem WkV.app {base nn q1 c1 z : Nat} {Rn : List Ck} {A1 : Option Addr} {p' : Pt} (h : WkV w m gs gp s wr p acc A q c) (hC : CkM base wr m nn Rn) (hg : wr.grownBy w' (Value.slice A q c).ownBlock) (ho : w'.ownsRow gs 60 2 (.slice A1 q1 c1) q1 ((acc ++ [p']).flatMap encPt))
    (hat : (Value.slice A1 q1 c1).ownBlock = (Value.slice A q c).ownBlock ∨ (Value.slice A1 q1 c1).ownBlock = some z) (hz : wr.heap.size = z) (hq : (acc ++ [p']).length = q1) (hgs : gs = w.heap.size) : WkA w m gs gp s w' p (acc ++ [p']) A1 q1 c1 A q c ∧ CkM base w' m nn Rn := by
  have np : ∀ {g : Nat} {t : TypeId} {cs : Array Value}, Blk wr g t cs → (t ≠ 60 ∨ g = gs ∨ g = gp) → Blk w' g t cs := fun {g t cs} hb hn => hb.grown hg (fun e => by
    rcases hn with h1 | h1 | h1
    · exact own_ne h.own hb (fun e => h1 e.symm) e.symm
    · exact (h.ap _ (e.symm.trans (by rw [h1]))).1 rfl
    · exact (h.ap _ (e.symm.trans (by rw [h1]))).2 rfl)
  have hg0 : w.grownBy w' (some m) := grownBy_row h.grw hg (fun k e => by have := (h.own.lt k e).1; omega)
  refine ⟨⟨h.hz, np h.vs (.inr (.inl rfl)), np h.vr (.inl (by decide)), np h.vo (.inl (by decide)), np h.vp (.inr (.inr rfl)), ho, fun k hk => ?_, hq, hg0⟩, hC.row h.own (by decide) hg⟩
  rcases hat with e | e
  · exact h.ap k (e ▸ hk)
  · rw [hk] at e; injection e with e
    have h1 := h.vs.lt
    have h2 := h.vp.lt
    omega
/-- behind the store -/
theorem WkA.done {A0 : Option Addr} {q0 c0 : Nat} (h : WkA w m gs gp s wr p acc A q c A0 q0 c0) (hgs : gs = w.heap.size) : WkV w m gs gp s (wr.setCell ⟨gs + 1 + 1 + 1, 0, none⟩ (.slice A q c)) p acc A q c := by
  have hz := h.hz
  have far : ∀ {g : Nat} {t : TypeId} {cs : Array Value}, Blk wr g t cs → g ≠ gs + 1 + 1 + 1 → Blk (wr.setCell ⟨gs + 1 + 1 + 1, 0, none⟩ (.slice A q c)) g t cs := fun hb hn => hb.far (p := ⟨gs + 1 + 1 + 1, 0, none⟩) hn _
  exact ⟨hz, far h.vs (by omega), far h.vr (by omega), h.vo.set_ 0 _, far h.vp (by omega), h.own.kept (grownBy_set _) (.inr (own_ne h.own h.vo (by decide))), h.ap, h.hq, grownBy_new h.grw (p := ⟨gs + 1 + 1 + 1, 0, none⟩) (by show w.heap.size ≤ gs + 1 + 1 + 1; omega) _⟩
end
/-- the state of the walk -/
structure WkI (w : World) (base m gs gp K : Nat) (s : Pt) (X : List Pt × List Ck) (N : Nat) (hv : Value) (wr : World) (Rn : List Ck) (p : Pt) (h : Int) (acc : List Pt) (A : Option Addr) (q c nn : Nat) : Prop where
  hv : hv = .int .i64 h
  run : walkP N Rn s p h acc = X
  len : Rn.length ≤ N
  cnt : nn + Rn.length ≤ K
  ck : CkM base wr m nn Rn
  V : WkV w m gs gp s wr p acc A q c
  np : near6 p
  hh : 0 ≤ h ∧ h < 4
  nr : ∀ c ∈ Rn, near5 c.1 ∧ 0 ≤ c.2 ∧ c.2 < 4
  lim : q + Rn.length ≤ 1000001 ∧ 1 ≤ q
def WkR (w : World) (base m gs gp K : Nat) (s : Pt) (X : List Pt × List Ck) (N : Nat) (hv : Value) (wr : World) : Prop :=
  ∃ Rn p h acc A q c nn, WkI w base m gs gp K s X N hv wr Rn p h acc A q c nn
/-- what the walk leaves -/
def WkO (w : World) (base m K : Nat) (X : List Pt × List Ck) (e : Ending) (w' : World) : Prop :=
  (∃ A q c, e = .returned (.agg #[.slice A q c]) ∧ w'.ownsRow w.heap.size 60 2 (.slice A q c) q (X.1.flatMap encPt) ∧ X.1.length = q) ∧ (∃ nn, CkM base w' m nn X.2 ∧ nn + X.2.length ≤ K) ∧ w.grownBy w' (some m)
set_option maxHeartbeats 8000000 in
theorem walkC_any (base : Nat) (w : World) (m n : Nat) (R : List Ck) (s : Pt) (h0 : Int) (t : List Int) (hC : CkM base w m n R) (hs : near5 s) (hbw : base ≤ w.heap.size) (hh : hdR R s = h0 :: t)
    (hnr : ∀ c ∈ R, near5 c.1 ∧ 0 ≤ c.2 ∧ c.2 < 4) (hl : R.length ≤ 1000000) (hn : n + R.length ≤ 1000000000) :
    Calls Tryz.prog 31 #[.map (some m), .agg #[.int .i64 s.1, .int .i64 s.2]] w fun e w' => WkO w base m (n + R.length) (walkP R.length R s s h0 [s]) e w' := by
  have hm0 : (s, h0) ∈ R := hdR_mem.1 (by rw [hh]; simp)
  have hh0 := (hnr _ hm0).2
  obtain ⟨X, hX⟩ : ∃ X, walkP R.length R s s h0 [s] = X := ⟨_, rfl⟩
  rw [hX]
  have HX := Lib.hid hX
  have HC := Lib.hid hC
  have HNR := Lib.hid hnr
  have hml := hC.lt
  have HNS := Lib.hid hs
  obtain ⟨F, hF⟩ := hC
  have hwf : wfK s := near6_wf (by unfold near5 at hs; unfold near6; omega)
  obtain ⟨A5, cap5, hgd, _⟩ := hF.look hwf
  have HHD := Lib.hid hh
  obtain ⟨len5, hlen⟩ : ∃ len5, (hdR R s).length = len5 := ⟨_, rfl⟩
  have hl5 : 0 < len5 := by rw [← hlen, hh]; simp
  have HGD := Lib.hid hgd
  have HLN := Lib.hid hlen
  have HF := Lib.hid hF
  have HWF := Lib.hid hwf
  rw [hlen] at HGD
  clear hX hnr hs hF hwf hgd hh hm0 hlen
  go_enter Tryz.func31, Tryz.ntmps31
  go_wp2_with fail
  obtain ⟨W1, hW1⟩ : ∃ W1, w.alloc (.cells #[.int .i64 s.1, .int .i64 s.2] 60) = W1 := ⟨_, rfl⟩
  obtain ⟨W2, hW2⟩ : ∃ W2, W1.alloc (.cells #[.slice none 0 0] 53) = W2 := ⟨_, rfl⟩
  obtain ⟨W3, hW3⟩ : ∃ W3, W2.alloc (.cells #[.int .i64 s.1, .int .i64 s.2] 60) = W3 := ⟨_, rfl⟩
  obtain ⟨W4, hW4⟩ : ∃ W4, W3.alloc (.cells #[.slice (some ⟨w.heap.size + 1 + 1, 0, none⟩) 1 1] 53) = W4 := ⟨_, rfl⟩
  rw [hW1, hW2, hW3, hW4]
  have s1 : W1.heap.size = w.heap.size + 1 := by rw [← hW1, World.size_alloc]
  have s2 : W2.heap.size = w.heap.size + 1 + 1 := by rw [← hW2, World.size_alloc, s1]
  have s3 : W3.heap.size = w.heap.size + 1 + 1 + 1 := by rw [← hW3, World.size_alloc, s2]
  have b1 : Below w.heap.size w W1 := hW1 ▸ (Below.refl _ _).alloc (Nat.le_refl _) _
  have b12 : Below W1.heap.size W1 W2 := hW2 ▸ (Below.refl _ _).alloc (Nat.le_refl _) _
  have b23 : Below W2.heap.size W2 W3 := hW3 ▸ (Below.refl _ _).alloc (Nat.le_refl _) _
  have b34 : Below W3.heap.size W3 W4 := hW4 ▸ (Below.refl _ _).alloc (Nat.le_refl _) _
  have vs4 : Blk W4 w.heap.size 60 #[.int .i64 s.1, .int .i64 s.2] := (((hW1 ▸ Blk.new _ _ _ : Blk W1 w.heap.size 60 #[.int .i64 s.1, .int .i64 s.2]).below b12).below b23).below b34
  have vr4 : Blk W4 (w.heap.size + 1) 53 #[.slice none 0 0] := by
    have : Blk W2 W1.heap.size 53 #[.slice none 0 0] := hW2 ▸ Blk.new _ _ _
    rw [s1] at this
    exact (this.below b23).below b34
  have vo4 : Blk W4 (w.heap.size + 1 + 1 + 1) 53 #[.slice (some ⟨w.heap.size + 1 + 1, 0, none⟩) 1 1] := by
    have : Blk W4 W3.heap.size 53 #[.slice (some ⟨w.heap.size + 1 + 1, 0, none⟩) 1 1] := hW4 ▸ Blk.new _ _ _
    rw [s3] at this
    exact this
  have ow3 : W3.ownsRow w.heap.size 60 2 (.slice (some ⟨w.heap.size + 1 + 1, 0, none⟩) 1 1) 1 ([s].flatMap encPt) := by
    have := own_made W2 encPt_len w.heap.size 60 [s] #[.int .i64 s.1, .int .i64 s.2] rfl (by omega) (by simp [maxLen])
    rw [hW3, s2] at this
    exact this
  have b4 : Below w.heap.size w W4 := ((b1.trans (b12.mono b1.size)).trans (b23.mono (b1.trans (b12.mono b1.size)).size)).trans (b34.mono ((b1.trans (b12.mono b1.size)).trans (b23.mono (b1.trans (b12.mono b1.size)).size)).size)
  have HS4 := Lib.hid vs4
  have HR4 := Lib.hid vr4
  have HO4 := Lib.hid vo4
  have HW4 := Lib.hid (own_below ow3 b34)
  have HB4 := Lib.hid b4
  have hlk := look_keep HF.out HWF.out b4 (by rw [HLN.out]; exact HGD.out) HLN.out
  have hrd4 : Rd 1 encI W4 (.slice A5 len5 cap5) (hdR R s) := by
    have := Rd.own encI_len (HF.out.below b4 |>.get HWF.out)
    rw [HGD.out] at this
    exact this
  obtain ⟨g5, o5, rfl, hg5, hc5⟩ := Rd.op hrd4 0 h0 (by rw [HHD.out]; rfl)
  have h_0 : W4.cell? ⟨g5, o5, none⟩ = some (.int .i64 h0) := by simpa using hc5 0 h0 (by rw [HHD.out]; rfl) 0 _ rfl
  have hz4 : W4.heap.size = w.heap.size + 1 + 1 + 1 + 1 := by rw [← hW4, World.size_alloc, s3]
  have v_0 : W4.cell? ⟨w.heap.size, 0, none⟩ = some (.int .i64 s.1) := vs4.cell 0
  have v_1 : W4.cell? ⟨w.heap.size, 1, none⟩ = some (.int .i64 s.2) := vs4.cell 1
  have vl := vs4.lt
  clear hW1 hW2 hW3 hW4 s1 s2 s3 b1 b12 b23 b34 vs4 vr4 vo4 ow3 b4 hrd4 hc5
  rw [hlk]
  go_simp
  go_wp2_with fail
  obtain ⟨W5, hW5⟩ : ∃ W5, W4.alloc (.cells #[.int .i64 s.1, .int .i64 s.2] 60) = W5 := ⟨_, rfl⟩
  obtain ⟨gs, hgs⟩ : ∃ gs, w.heap.size = gs := ⟨_, rfl⟩
  rw [hgs] at hz4
  obtain ⟨gp, hgp⟩ : ∃ gp, gs + 1 + 1 + 1 + 1 = gp := ⟨_, rfl⟩
  rw [hgp] at hz4
  have HZ := Lib.hid hgp
  have HGS := Lib.hid hgs
  have b45 : Below W4.heap.size W4 W5 := hW5 ▸ (Below.refl _ _).alloc (Nat.le_refl _) _
  have vp5 : Blk W5 gp 60 #[.int .i64 s.1, .int .i64 s.2] := by rw [← hW5, ← hz4]; exact Blk.new _ _ _
  have hstart : WkI w base m gs gp (n + R.length) s X R.length (.int .i64 h0) W5 R s h0 [s] (some ⟨gs + 1 + 1, 0, none⟩) 1 1 n := by
    have q1 := HS4.out.below b45
    have q2 := HR4.out.below b45
    have q3 := HO4.out.below b45
    have q4 := own_below HW4.out b45
    rw [hgs] at q1 q2 q3 q4
    exact ⟨rfl, HX.out, Nat.le_refl _, Nat.le_refl _, (HC.out.below HB4.out).below b45, ⟨hgp, q1, q2, q3, vp5, q4, (fun k hk => by injection hk with hk; simp only at hk; omega), rfl, below_grownBy (HB4.out.trans (b45.mono HB4.out.size))⟩, (by have := HNS.out; unfold near5 at this; unfold near6; omega), hh0, HNR.out, by omega⟩
  have HST := Lib.hid hstart
  rw [hW5, hgs, hgp]
  clear hW5 hgs hgp hz4 b45 vp5 hstart v_0 v_1 vl hlk h_0
  go_loopw [6] (fun hv wr => ∃ N, Hid (WkR w base m gs gp (n + R.length) s X N hv wr)) (fun hv wr => minN (fun N => WkR w base m gs gp (n + R.length) s X N hv wr))
  case atStart => exact ⟨_, Lib.hid ⟨_, _, _, _, _, _, _, _, HST.out⟩⟩
  case round =>
    obtain ⟨N0, hN0⟩ := hrel
    have hmin := minN_is (p := fun N => WkR w base m gs gp (n + R.length) s X N u6 wr) ⟨N0, hN0.out⟩
    obtain ⟨N, hN⟩ : ∃ N, minN (fun N => WkR w base m gs gp (n + R.length) s X N u6 wr) = N := ⟨_, rfl⟩
    rw [hN] at hmin
    have HNM := Lib.hid hN
    clear hN hN0 N0 HST
    obtain ⟨Rn, p, h, acc, A, q, c, nn, I⟩ := hmin
    obtain rfl := I.hv
    have p_0 : wr.cell? ⟨gp, 0, none⟩ = some (.int .i64 p.1) := I.V.vp.cell 0
    have p_1 : wr.cell? ⟨gp, 1, none⟩ = some (.int .i64 p.2) := I.V.vp.cell 1
    have p_l := I.V.vp.lt
    have hlr := I.len
    have hlim := I.lim
    have hcnt := I.cnt
    have HI := Lib.hid I
    clear I
    by_cases hyes : h ∈ hdR Rn p
    · have hmem := hdR_mem.1 hyes
      have hpos : 0 < Rn.length := List.length_pos_of_mem hmem
      obtain ⟨N', rfl⟩ : ∃ N', N = N' + 1 := ⟨N - 1, by omega⟩
      have HY := Lib.hid hyes
      have hbr : base ≤ wr.heap.size := Nat.le_trans hbw HI.out.V.grw.size
      clear hyes hmem
      go_wp2_with fail
      (go_at_call 57; (refine (take_yes base _ m nn Rn p h HI.out.ck (near6_wf HI.out.np) (by omega) (by omega) hbr HY.out).mono ?_); rintro e W6 ⟨rfl, hC6, hg6⟩)
      have V6 := HI.out.V.map HI.out.ck hg6
      have HV6 := Lib.hid V6
      have HC6 := Lib.hid hC6
      have p_0 : W6.cell? ⟨gp, 0, none⟩ = some (.int .i64 p.1) := V6.vp.cell 0
      have p_1 : W6.cell? ⟨gp, 1, none⟩ = some (.int .i64 p.2) := V6.vp.cell 1
      have p_l := V6.vp.lt
      have hnp := HI.out.np
      have hh := HI.out.hh
      clear V6 hC6 hg6
      go_wp2_with fail
      (go_at_call 58; (with_reducible refine (Kin.callK (W := W6) gRw (from_any h p _ hh (by unfold near6 at hnp; omega))).mono ?_); rintro e w' ⟨z7, rfl, hz7, rfl⟩; skip)
      obtain ⟨W7, hW7⟩ : ∃ W7, z7.1 = W7 := ⟨_, rfl⟩
      rw [hW7] at hz7 ⊢
      obtain ⟨p', hp'⟩ : ∃ p', fromP h p = p' := ⟨_, rfl⟩
      have HPP := Lib.hid hp'
      rw [hp']
      have V7 := HV6.out.below hz7
      have HC7 := Lib.hid (HC6.out.below hz7)
      have HV7 := Lib.hid V7
      have f_0 : W7.frozen? ⟨gp, 0, none⟩ = false := V7.vp.frozen 0
      have f_1 : W7.frozen? ⟨gp, 1, none⟩ = false := V7.vp.frozen 1
      have p7_0 : W7.cell? ⟨gp, 0, none⟩ = some (.int .i64 p.1) := V7.vp.cell 0
      have p7_1 : W7.cell? ⟨gp, 1, none⟩ = some (.int .i64 p.2) := V7.vp.cell 1
      have p7_l := V7.vp.lt
      have s7_0 : W7.cell? ⟨gs, 0, none⟩ = some (.int .i64 s.1) := V7.vs.cell 0
      have s7_1 : W7.cell? ⟨gs, 1, none⟩ = some (.int .i64 s.2) := V7.vs.cell 1
      have s7_l := V7.vs.lt
      have hgz := V7.hz
      have o7_0 : W7.cell? ⟨gs + 1 + 1 + 1, 0, none⟩ = some (.slice A q c) := V7.vo.cell 0
      have o7_l := V7.vo.lt
      have r7_0 : W7.cell? ⟨gs + 1, 0, none⟩ = some (.slice none 0 0) := V7.vr.cell 0
      have r7_f : W7.frozen? ⟨gs + 1, 0, none⟩ = false := V7.vr.frozen 0
      have r7_l := V7.vr.lt
      have hgo : gp ≠ gs + 1 + 1 + 1 := by omega
      have hgr : gp ≠ gs + 1 := by omega
      have hgs0 := HGS.out.symm
      have V8 := V7.setp hgs0 p'
      have HV8 := Lib.hid V8
      have C8 := HC7.out.var V7.vp (by decide) (grownBy_trans (grownBy_set (p := ⟨gp, 0, none⟩) (.int .i64 p'.1)) (grownBy_set (p := ⟨gp, 1, none⟩) (.int .i64 p'.2)))
      have HC8 := Lib.hid C8
      have hgn : gs ≠ gp := by omega
      have hgn2 : gp ≠ gs := by omega
      have HD := Lib.hid hgz
      clear hW7 hz7 hp' V7 V8 C8 hgz hgs0 p_0 p_1 p_l
      by_cases hst : p' = s
      · subst hst
        have heq := ptEq_yes p'
        have hrun : (acc, Rn.erase (p, h)) = X := by
          have := HI.out.run
          unfold walkP at this
          rw [if_pos HY.out, if_pos HPP.out] at this
          exact this
        have HRUN := Lib.hid hrun
        clear hrun
        go_wp2_with fail
        ((try simp only [Exit.inBlock, Exit.then]); refine bodyPost_ret (results_cell_row rfl _ _ _ _ _ (0, 0) _ rfl (HV8.out.vr.set_ 0 _) Tryz.underlying53 rfl (by kernel_rfl)) rfl ?_)
        have g9 := grownBy_set (w := (W7.setCell ⟨gp, 0, none⟩ (.int .i64 p'.1)).setCell ⟨gp, 1, none⟩ (.int .i64 p'.2)) (p := ⟨gs + 1, 0, none⟩) (.slice A q c)
        have hc9 := HC8.out.var HV8.out.vr (by decide) g9
        have ho9 := HV8.out.own.kept g9 (by
          exact .inr (own_ne HV8.out.own HV8.out.vr (by decide)))
        rw [← HRUN.out]
        refine ⟨⟨A, q, c, rfl, by rw [HGS.out]; exact ho9, HV8.out.hq⟩, ⟨_, hc9, by have := List.length_erase_of_mem (hdR_mem.1 HY.out); simp only; omega⟩, grownBy_new HV8.out.grw (p := ⟨gs + 1, 0, none⟩) (by show w.heap.size ≤ gs + 1; rw [HGS.out]; omega) _⟩
      · have heq := ptEq_no hst
        have HST := Lib.hid hst
        go_wp2_with fail
        obtain ⟨W8, hW8⟩ : ∃ W8, (W7.setCell ⟨gp, 0, none⟩ (.int .i64 p'.1)).setCell ⟨gp, 1, none⟩ (.int .i64 p'.2) = W8 := ⟨_, rfl⟩
        rw [hW8] at HV8 HC8 ⊢
        clear hW8 f_0 f_1 p7_0 p7_1 p7_l s7_0 s7_1 s7_l o7_0 o7_l r7_0 r7_f r7_l heq hst
        (go_at_call 59; (with_reducible refine (Kin.callK (W := W8) gRw (left_any h _ hh)).mono ?_); rintro e w' ⟨z9, rfl, hz9, rfl⟩; skip)
        go_wp2_with fail
        (go_at_call 60; (with_reducible refine (Kin.callK (W := W8) gRw (right_any h _ hh)).mono ?_); rintro e w' ⟨z10, rfl, hz10, rfl⟩; skip)
        obtain ⟨W10, hW10⟩ : ∃ W10, z10.1 = W10 := ⟨_, rfl⟩
        have hb10 := z10.2
        rw [hW10] at hb10 ⊢
        have HV10 := Lib.hid (HV8.out.below hb10)
        have C10 := HC8.out.below hb10
        have HC10 := Lib.hid C10
        obtain ⟨R', hR'⟩ : ∃ R', Rn.erase (p, h) = R' := ⟨_, rfl⟩
        have hmem := hdR_mem.1 HY.out
        have hl1 : R'.length ≤ N' := by rw [← hR', List.length_erase_of_mem hmem]; omega
        have hl2 : nn + 1 + R'.length ≤ n + R.length := by rw [← hR', List.length_erase_of_mem hmem]; omega
        have hl3 : R'.length + 1 ≤ Rn.length := by rw [← hR', List.length_erase_of_mem hmem]; omega
        have HNRR := Lib.hid (show ∀ c ∈ R', near5 c.1 ∧ 0 ≤ c.2 ∧ c.2 < 4 from fun c hc => HI.out.nr c (List.mem_of_mem_erase (hR' ▸ hc)))
        have HN6 := Lib.hid (show near6 p' by rw [← HPP.out]; exact near_from (HI.out.nr _ hmem).1 h)
        have HHR := Lib.hid hh
        have HSTP := Lib.hid (show (match pick R' p' h with | none => walkP N' R' s p' h acc | some g => walkP N' R' s p' g (if g ≠ h then acc ++ [p'] else acc)) = X by
          have := HI.out.run
          unfold walkP at this
          rw [if_pos HY.out, HPP.out, if_neg HST.out, hR'] at this
          exact this)
        rw [hR'] at C10 HC10
        have hwp : wfK p' := near6_wf HN6.out
        have HWP := Lib.hid hwp
        obtain ⟨F10, hF10⟩ := C10
        obtain ⟨A10, c10, hg10, _⟩ := hF10.look hwp
        obtain ⟨l10, hl10⟩ : ∃ l10, (hdR R' p').length = l10 := ⟨_, rfl⟩
        have hlb10 : l10 ≤ 1000000 := by rw [← hl10]; have := hdR_len R' p'; omega
        have hrd10 := Rd.own encI_len (hF10.get hwp)
        rw [hg10] at hrd10
        have HRD10 := Lib.hid hrd10
        have HG10 := Lib.hid hg10
        have HF10 := Lib.hid hF10
        have HL10 := Lib.hid hl10
        rw [hl10] at HRD10
        have hix := fun w' => run_idxH (.int .i64 (lf h)) (.int .i64 h) (.int .i64 (rt h)) w' rfl rfl rfl
        have hix0 := fun w' => (hix w').1
        have hix1 := fun w' => (hix w').2.1
        have hix2 := fun w' => (hix w').2.2
        clear hix hW10 hb10 hz9 hz10 hR' hmem hwp hF10 hg10 hl10 hrd10 hnp HV8 HC8 HV6 HC6 HV7 HC7
        go_wp2_with fail
        go_loopw [6, 35] (fun hv i wr => hv = .int .i64 h ∧ ((i = .int .i64 0) ∨ (i = .int .i64 1 ∧ lf h ∉ hdR R' p') ∨ (i = .int .i64 2 ∧ lf h ∉ hdR R' p' ∧ h ∉ hdR R' p') ∨ (i = .int .i64 3 ∧ lf h ∉ hdR R' p' ∧ h ∉ hdR R' p' ∧ rt h ∉ hdR R' p')) ∧ ∃ y : Kin W10, y.1 = wr) (fun _ i _ => 3 - (intOf i).toNat)
        case atStart => exact ⟨rfl, .inl rfl, ⟨W10, Below.refl _ _⟩, rfl⟩
        case round =>
          obtain ⟨rfl, hrel, y, rfl⟩ := hrel
          rcases hrel with rfl | ⟨rfl, hj0⟩ | ⟨rfl, hj0, hj1⟩ | ⟨rfl, hj0, hj1, hj2⟩
          ·
            have hlk := look_keep HF10.out HWP.out y.2 HG10.out HL10.out
            have p_0 : y.1.cell? ⟨gp, 0, none⟩ = some (.int .i64 p'.1) := (y.2.cell (p := ⟨gp, 0, none⟩) HV10.out.vp.lt).trans (HV10.out.vp.cell 0)
            have p_1 : y.1.cell? ⟨gp, 1, none⟩ = some (.int .i64 p'.2) := (y.2.cell (p := ⟨gp, 1, none⟩) HV10.out.vp.lt).trans (HV10.out.vp.cell 1)
            have p_l : gp < y.1.heap.size := Nat.lt_of_lt_of_le HV10.out.vp.lt y.2.size
            have HRDY := Lib.hid (Rd.below HRD10.out y.2)
            by_cases hin : lf h ∈ hdR R' p'
            · have HPK := Lib.hid (show pick R' p' h = some (lf h) by unfold pick; rw [if_pos hin])
              have hdc : decide (lf h ∈ hdR R' p') = true := decide_eq_true hin
              have HDC := Lib.hid hdc
              clear hin hdc
              go_wp2_with fail
              (go_at_call 61; (with_reducible refine (Kin.callK (W := (Kin.wd y)) gRw ((HDC.out ▸ containsH_any _ (hdR R' p') (lf h) _ HRDY.out (by rw [HL10.out]; omega) : Calls _ _ _ _ fun e w' => e = .returned (.bool true) ∧ Below (Kin.wd y).heap.size (Kin.wd y) w'))).mono ?_); rintro e w' ⟨z12, rfl, hz12, rfl⟩; skip)
              obtain ⟨W12, hW12⟩ : ∃ W12, z12.1 = W12 := ⟨_, rfl⟩
              rw [hW12] at hz12 ⊢
              have hb12 : Below W10.heap.size W10 W12 := y.2.trans (hz12.mono y.2.size)
              have V12 := HV10.out.below hb12
              have HV12 := Lib.hid V12
              have HC12 := Lib.hid (HC10.out.below hb12)
              have o_0 : W12.cell? ⟨gs + 1 + 1 + 1, 0, none⟩ = some (.slice A q c) := V12.vo.cell 0
              have o_l := V12.vo.lt
              have p2_0 : W12.cell? ⟨gp, 0, none⟩ = some (.int .i64 p'.1) := V12.vp.cell 0
              have p2_1 : W12.cell? ⟨gp, 1, none⟩ = some (.int .i64 p'.2) := V12.vp.cell 1
              have p2_l := V12.vp.lt
              have hgsl : gs ≤ W12.heap.size := Nat.le_of_lt V12.vs.lt
              have hneq : ¬ lf h = h := by have := HHR.out; unfold lf; omega
              have hown12 : W12.ownsRow gs 60 2 (.slice A q c) acc.length (acc.flatMap encPt) := by rw [HV12.out.hq]; exact V12.own
              have HOW12 := Lib.hid hown12
              have hacl : acc.length ≤ 2000000 := by rw [HV12.out.hq]; omega
              clear V12 hW12 hz12 hb12 hown12
              go_wp2_with (at_builtin; refine Shut.out ?_)
              unfold Shut
              refine wpList_app _ rfl _ _ 51 rfl encPt_len (by decide) oneP (gs) 60 (.agg #[.int .i64 0, .int .i64 0]) 16 infoPt2 rfl Tryz.underlying51 _ _ _ _ rfl (HOW12.out.alloc _) _ _ _ rfl (rd_one _ encPt_len _ p' _ rfl) ?c1 (by decide) ?c2 ?_
              case c1 => (first | (simp only [List.length_append, List.length_cons, List.length_nil]; omega) | omega | (simp; omega))
              case c2 => exact lEw
              intro v1 w1 hown1 hg1 hbel1 hat1
              obtain ⟨q1, hq1⟩ : ∃ q1, (acc ++ [p']).length = q1 := ⟨_, rfl⟩
              rw [hq1] at hown1
              obtain ⟨A1, c1, rfl⟩ := own_slc hown1
              have V13 := HV12.out.below (Below.alloc (Below.refl W12.heap.size W12) (Nat.le_refl _) (.cells #[.int .i64 p'.1, .int .i64 p'.2] 60))
              have C13 := HC12.out.below (Below.alloc (Below.refl W12.heap.size W12) (Nat.le_refl _) (.cells #[.int .i64 p'.1, .int .i64 p'.2] 60))
              have hat2 : (Value.slice A1 q1 c1).ownBlock = (Value.slice A q c).ownBlock ∨ (Value.slice A1 q1 c1).ownBlock = some (W12.heap.size + 1) := by rw [World.size_alloc] at hat1; exact hat1
              obtain ⟨V14, C14⟩ := V13.app C13 hg1 hown1 hat2 (by rw [World.size_alloc]) hq1 HGS.out.symm
              have o1_0 : w1.cell? ⟨gs + 1 + 1 + 1, 0, none⟩ = some (.slice A q c) := V14.vo.cell 0
              have o1_f : w1.frozen? ⟨gs + 1 + 1 + 1, 0, none⟩ = false := V14.vo.frozen 0
              have o1_l := V14.vo.lt
              have HV14 := Lib.hid V14
              have HC14 := Lib.hid C14
              have hq2 : q1 = q + 1 := by rw [← hq1, List.length_append, HV12.out.hq]; rfl
              have HQ2 := Lib.hid hq2
              clear V13 C13 V14 C14 hown1 hg1 hbel1 hat1 hat2 hq1 hq2 o_0 o_l p2_0 p2_1 p2_l
              go_wp2_with fail
              have hfin : WkI w base m gs gp (n + R.length) s X N' (.int .i64 (lf h)) (w1.setCell ⟨gs + 1 + 1 + 1, 0, none⟩ (.slice A1 q1 c1)) R' p' (lf h) (acc ++ [p']) A1 q1 c1 (nn + 1) := ⟨rfl, (by have := HSTP.out; rw [HPK.out] at this; simpa [hneq] using this), hl1, hl2, HC14.out.var HV14.out.vo (by decide) (grownBy_set _), HV14.out.done HGS.out.symm, HN6.out, lf_h, HNRR.out, by have := HQ2.out; omega⟩
              exact ⟨⟨N', Lib.hid ⟨_, _, _, _, _, _, _, _, hfin⟩⟩, by rw [HNM.out]; exact Nat.lt_succ_of_le (minN_le ⟨_, _, _, _, _, _, _, _, hfin⟩)⟩
            · have HDC := Lib.hid (show decide (lf h ∈ hdR R' p') = false from decide_eq_false hin)
              have HIN := Lib.hid hin
              clear hin
              go_wp2_with fail
              (go_at_call 61; (with_reducible refine (Kin.callK (W := (Kin.wd y)) gRw ((HDC.out ▸ containsH_any _ (hdR R' p') (lf h) _ HRDY.out (by rw [HL10.out]; omega) : Calls _ _ _ _ fun e w' => e = .returned (.bool false) ∧ Below (Kin.wd y).heap.size (Kin.wd y) w'))).mono ?_); rintro e w' ⟨z12, rfl, hz12, rfl⟩; skip)
              go_wp2_with fail
              exact ⟨⟨rfl, .inr (.inl ⟨rfl, HIN.out⟩), ⟨z12.1, y.2.trans (z12.2.mono y.2.size)⟩, rfl⟩, by simp [intOf]⟩
          ·
            have hlk := look_keep HF10.out HWP.out y.2 HG10.out HL10.out
            have p_0 : y.1.cell? ⟨gp, 0, none⟩ = some (.int .i64 p'.1) := (y.2.cell (p := ⟨gp, 0, none⟩) HV10.out.vp.lt).trans (HV10.out.vp.cell 0)
            have p_1 : y.1.cell? ⟨gp, 1, none⟩ = some (.int .i64 p'.2) := (y.2.cell (p := ⟨gp, 1, none⟩) HV10.out.vp.lt).trans (HV10.out.vp.cell 1)
            have p_l : gp < y.1.heap.size := Nat.lt_of_lt_of_le HV10.out.vp.lt y.2.size
            have HRDY := Lib.hid (Rd.below HRD10.out y.2)
            by_cases hin : h ∈ hdR R' p'
            · have HPK := Lib.hid (show pick R' p' h = some (h) by unfold pick; rw [if_neg hj0, if_pos hin])
              have hdc : decide (h ∈ hdR R' p') = true := decide_eq_true hin
              have HDC := Lib.hid hdc
              clear hin hdc
              go_wp2_with fail
              (go_at_call 61; (with_reducible refine (Kin.callK (W := (Kin.wd y)) gRw ((HDC.out ▸ containsH_any _ (hdR R' p') (h) _ HRDY.out (by rw [HL10.out]; omega) : Calls _ _ _ _ fun e w' => e = .returned (.bool true) ∧ Below (Kin.wd y).heap.size (Kin.wd y) w'))).mono ?_); rintro e w' ⟨z12, rfl, hz12, rfl⟩; skip)
              obtain ⟨W12, hW12⟩ : ∃ W12, z12.1 = W12 := ⟨_, rfl⟩
              rw [hW12] at hz12 ⊢
              have hb12 : Below W10.heap.size W10 W12 := y.2.trans (hz12.mono y.2.size)
              have V12 := HV10.out.below hb12
              have HV12 := Lib.hid V12
              have HC12 := Lib.hid (HC10.out.below hb12)
              clear V12 hW12 hz12 hb12
              go_wp2_with fail
              have hfin : WkI w base m gs gp (n + R.length) s X N' (.int .i64 h) W12 R' p' h acc A q c (nn + 1) := ⟨rfl, (by have := HSTP.out; rw [HPK.out] at this; simpa using this), hl1, hl2, HC12.out, HV12.out, HN6.out, HHR.out, HNRR.out, by omega⟩
              exact ⟨⟨N', Lib.hid ⟨_, _, _, _, _, _, _, _, hfin⟩⟩, by rw [HNM.out]; exact Nat.lt_succ_of_le (minN_le ⟨_, _, _, _, _, _, _, _, hfin⟩)⟩
            · have HDC := Lib.hid (show decide (h ∈ hdR R' p') = false from decide_eq_false hin)
              have HIN := Lib.hid hin
              clear hin
              go_wp2_with fail
              (go_at_call 61; (with_reducible refine (Kin.callK (W := (Kin.wd y)) gRw ((HDC.out ▸ containsH_any _ (hdR R' p') (h) _ HRDY.out (by rw [HL10.out]; omega) : Calls _ _ _ _ fun e w' => e = .returned (.bool false) ∧ Below (Kin.wd y).heap.size (Kin.wd y) w'))).mono ?_); rintro e w' ⟨z12, rfl, hz12, rfl⟩; skip)
              go_wp2_with fail
              exact ⟨⟨rfl, .inr (.inr (.inl ⟨rfl, hj0, HIN.out⟩)), ⟨z12.1, y.2.trans (z12.2.mono y.2.size)⟩, rfl⟩, by simp [intOf]⟩
          ·
            have hlk := look_keep HF10.out HWP.out y.2 HG10.out HL10.out
            have p_0 : y.1.cell? ⟨gp, 0, none⟩ = some (.int .i64 p'.1) := (y.2.cell (p := ⟨gp, 0, none⟩) HV10.out.vp.lt).trans (HV10.out.vp.cell 0)
            have p_1 : y.1.cell? ⟨gp, 1, none⟩ = some (.int .i64 p'.2) := (y.2.cell (p := ⟨gp, 1, none⟩) HV10.out.vp.lt).trans (HV10.out.vp.cell 1)
            have p_l : gp < y.1.heap.size := Nat.lt_of_lt_of_le HV10.out.vp.lt y.2.size
            have HRDY := Lib.hid (Rd.below HRD10.out y.2)
            by_cases hin : rt h ∈ hdR R' p'
            · have HPK := Lib.hid (show pick R' p' h = some (rt h) by unfold pick; rw [if_neg hj0, if_neg hj1, if_pos hin])
              have hdc : decide (rt h ∈ hdR R' p') = true := decide_eq_true hin
              have HDC := Lib.hid hdc
              clear hin hdc
              go_wp2_with fail
              (go_at_call 61; (with_reducible refine (Kin.callK (W := (Kin.wd y)) gRw ((HDC.out ▸ containsH_any _ (hdR R' p') (rt h) _ HRDY.out (by rw [HL10.out]; omega) : Calls _ _ _ _ fun e w' => e = .returned (.bool true) ∧ Below (Kin.wd y).heap.size (Kin.wd y) w'))).mono ?_); rintro e w' ⟨z12, rfl, hz12, rfl⟩; skip)
              obtain ⟨W12, hW12⟩ : ∃ W12, z12.1 = W12 := ⟨_, rfl⟩
              rw [hW12] at hz12 ⊢
              have hb12 : Below W10.heap.size W10 W12 := y.2.trans (hz12.mono y.2.size)
              have V12 := HV10.out.below hb12
              have HV12 := Lib.hid V12
              have HC12 := Lib.hid (HC10.out.below hb12)
              have o_0 : W12.cell? ⟨gs + 1 + 1 + 1, 0, none⟩ = some (.slice A q c) := V12.vo.cell 0
              have o_l := V12.vo.lt
              have p2_0 : W12.cell? ⟨gp, 0, none⟩ = some (.int .i64 p'.1) := V12.vp.cell 0
              have p2_1 : W12.cell? ⟨gp, 1, none⟩ = some (.int .i64 p'.2) := V12.vp.cell 1
              have p2_l := V12.vp.lt
              have hgsl : gs ≤ W12.heap.size := Nat.le_of_lt V12.vs.lt
              have hneq : ¬ rt h = h := by have := HHR.out; unfold rt; omega
              have hown12 : W12.ownsRow gs 60 2 (.slice A q c) acc.length (acc.flatMap encPt) := by rw [HV12.out.hq]; exact V12.own
              have HOW12 := Lib.hid hown12
              have hacl : acc.length ≤ 2000000 := by rw [HV12.out.hq]; omega
              clear V12 hW12 hz12 hb12 hown12
              go_wp2_with (at_builtin; refine Shut.out ?_)
              unfold Shut
              refine wpList_app _ rfl _ _ 51 rfl encPt_len (by decide) oneP (gs) 60 (.agg #[.int .i64 0, .int .i64 0]) 16 infoPt2 rfl Tryz.underlying51 _ _ _ _ rfl (HOW12.out.alloc _) _ _ _ rfl (rd_one _ encPt_len _ p' _ rfl) ?c1 (by decide) ?c2 ?_
              case c1 => (first | (simp only [List.length_append, List.length_cons, List.length_nil]; omega) | omega | (simp; omega))
              case c2 => exact lEw
              intro v1 w1 hown1 hg1 hbel1 hat1
              obtain ⟨q1, hq1⟩ : ∃ q1, (acc ++ [p']).length = q1 := ⟨_, rfl⟩
              rw [hq1] at hown1
              obtain ⟨A1, c1, rfl⟩ := own_slc hown1
              have V13 := HV12.out.below (Below.alloc (Below.refl W12.heap.size W12) (Nat.le_refl _) (.cells #[.int .i64 p'.1, .int .i64 p'.2] 60))
              have C13 := HC12.out.below (Below.alloc (Below.refl W12.heap.size W12) (Nat.le_refl _) (.cells #[.int .i64 p'.1, .int .i64 p'.2] 60))
              have hat2 : (Value.slice A1 q1 c1).ownBlock = (Value.slice A q c).ownBlock ∨ (Value.slice A1 q1 c1).ownBlock = some (W12.heap.size + 1) := by rw [World.size_alloc] at hat1; exact hat1
              obtain ⟨V14, C14⟩ := V13.app C13 hg1 hown1 hat2 (by rw [World.size_alloc]) hq1 HGS.out.symm
              have o1_0 : w1.cell? ⟨gs + 1 + 1 + 1, 0, none⟩ = some (.slice A q c) := V14.vo.cell 0
              have o1_f : w1.frozen? ⟨gs + 1 + 1 + 1, 0, none⟩ = false := V14.vo.frozen 0
              have o1_l := V14.vo.lt
              have HV14 := Lib.hid V14
              have HC14 := Lib.hid C14
              have hq2 : q1 = q + 1 := by rw [← hq1, List.length_append, HV12.out.hq]; rfl
              have HQ2 := Lib.hid hq2
              clear V13 C13 V14 C14 hown1 hg1 hbel1 hat1 hat2 hq1 hq2 o_0 o_l p2_0 p2_1 p2_l
              go_wp2_with fail
              have hfin : WkI w base m gs gp (n + R.length) s X N' (.int .i64 (rt h)) (w1.setCell ⟨gs + 1 + 1 + 1, 0, none⟩ (.slice A1 q1 c1)) R' p' (rt h) (acc ++ [p']) A1 q1 c1 (nn + 1) := ⟨rfl, (by have := HSTP.out; rw [HPK.out] at this; simpa [hneq] using this), hl1, hl2, HC14.out.var HV14.out.vo (by decide) (grownBy_set _), HV14.out.done HGS.out.symm, HN6.out, rt_h, HNRR.out, by have := HQ2.out; omega⟩
              exact ⟨⟨N', Lib.hid ⟨_, _, _, _, _, _, _, _, hfin⟩⟩, by rw [HNM.out]; exact Nat.lt_succ_of_le (minN_le ⟨_, _, _, _, _, _, _, _, hfin⟩)⟩
            · have HDC := Lib.hid (show decide (rt h ∈ hdR R' p') = false from decide_eq_false hin)
              have HIN := Lib.hid hin
              clear hin
              go_wp2_with fail
              (go_at_call 61; (with_reducible refine (Kin.callK (W := (Kin.wd y)) gRw ((HDC.out ▸ containsH_any _ (hdR R' p') (rt h) _ HRDY.out (by rw [HL10.out]; omega) : Calls _ _ _ _ fun e w' => e = .returned (.bool false) ∧ Below (Kin.wd y).heap.size (Kin.wd y) w'))).mono ?_); rintro e w' ⟨z12, rfl, hz12, rfl⟩; skip)
              go_wp2_with fail
              exact ⟨⟨rfl, .inr (.inr (.inr ⟨rfl, hj0, hj1, HIN.out⟩)), ⟨z12.1, y.2.trans (z12.2.mono y.2.size)⟩, rfl⟩, by simp [intOf]⟩
          · have HPK := Lib.hid (show pick R' p' h = none by unfold pick; rw [if_neg hj0, if_neg hj1, if_neg hj2])
            have hb12 := y.2
            have HV12 := Lib.hid (HV10.out.below hb12)
            have HC12 := Lib.hid (HC10.out.below hb12)
            clear hb12
            go_wp2_with fail
            have hfin : WkI w base m gs gp (n + R.length) s X N' (.int .i64 h) y.1 R' p' h acc A q c (nn + 1) := ⟨rfl, (by have := HSTP.out; rw [HPK.out] at this; exact this), hl1, hl2, HC12.out, HV12.out, HN6.out, HHR.out, HNRR.out, by omega⟩
            exact ⟨⟨N', Lib.hid ⟨_, _, _, _, _, _, _, _, hfin⟩⟩, by rw [HNM.out]; exact Nat.lt_succ_of_le (minN_le ⟨_, _, _, _, _, _, _, _, hfin⟩)⟩
    · have HNO := Lib.hid hyes
      clear hyes
      have hrun : (acc, Rn) = X := by
        have := HI.out.run
        cases N with
        | zero => unfold walkP at this; exact this
        | succ N' => unfold walkP at this; rw [if_neg HNO.out] at this; exact this
      have HRUN := Lib.hid hrun
      have hlr2 : Rn.length ≤ 1000000000 := by omega
      clear hrun
      go_wp2_with fail
      (go_at_call 57; (with_reducible refine (Kin.callK (W := wr) gRw (take_no base _ m nn Rn p h HI.out.ck (near6_wf HI.out.np) hlr2 HNO.out)).mono ?_); rintro e w' ⟨z6, rfl, hz6, rfl⟩; skip)
      obtain ⟨W6, hW6⟩ : ∃ W6, z6.1 = W6 := ⟨_, rfl⟩
      rw [hW6] at hz6 ⊢
      have V6 := HI.out.V.below hz6
      have HC6 := Lib.hid (HI.out.ck.below hz6)
      have HV6 := Lib.hid V6
      have o7_0 : W6.cell? ⟨gs + 1 + 1 + 1, 0, none⟩ = some (.slice A q c) := V6.vo.cell 0
      have o7_l := V6.vo.lt
      have r7_0 : W6.cell? ⟨gs + 1, 0, none⟩ = some (.slice none 0 0) := V6.vr.cell 0
      have r7_f : W6.frozen? ⟨gs + 1, 0, none⟩ = false := V6.vr.frozen 0
      have r7_l := V6.vr.lt
      clear hW6 hz6 V6 p_0 p_1 p_l
      go_wp2_with fail
      ((try simp only [Exit.inBlock, Exit.then]); refine bodyPost_ret (results_cell_row rfl _ _ _ _ _ (0, 0) _ rfl (HV6.out.vr.set_ 0 _) Tryz.underlying53 rfl (by kernel_rfl)) rfl ?_)
      have g9 := grownBy_set (w := W6) (p := ⟨gs + 1, 0, none⟩) (.slice A q c)
      have hc9 := HC6.out.var HV6.out.vr (by decide) g9
      have ho9 := HV6.out.own.kept g9 (.inr (own_ne HV6.out.own HV6.out.vr (by decide)))
      rw [← HRUN.out]
      refine ⟨⟨A, q, c, rfl, by rw [HGS.out]; exact ho9, HV6.out.hq⟩, ⟨_, hc9, hcnt⟩, grownBy_new HV6.out.grw (p := ⟨gs + 1, 0, none⟩) (by show w.heap.size ≤ gs + 1; rw [HGS.out]; omega) _⟩
end Go.Proofs.YtneelidbgigehaaGreat
/- slices.SortFunc at corners, as Trace calls it: by Y, then X. -/
namespace Go.Sort
end Go.Sort
namespace Go.Shelf
end Go.Shelf
namespace Go.Proofs.YtneelidbgigehaaGreat
set_option linter.unusedSimpArgs false
set_option linter.unusedVariables false
set_option maxRecDepth 100000
open Go.Shelf Go.RowKit Go.Lib Go.Sort Go.Proofs Trc
/-- a corner within the bounds -/
abbrev NPt := { p : Pt // near6 p }
instance : Inhabited NPt := ⟨⟨(0, 0), by unfold near6; decide⟩⟩
def encN (r : NPt) : List Value := encPt r.1
def ltQ (a b : Pt) : Bool := decide (a.2 < b.2) || (decide (a.2 = b.2) && decide (a.1 < b.1))
theorem ltQ_iff {a b : Pt} : ltQ a b = true ↔ ltP a b := by unfold ltQ ltP; simp
def cfN (x y : NPt) : Int := if x.1.2 = y.1.2 then x.1.1 - y.1.1 else x.1.2 - y.1.2
theorem ltN (x y : NPt) : ltOf cfN x y = ltQ x.1 y.1 := by
  unfold ltOf cfN ltQ
  rw [Bool.eq_iff_iff]
  by_cases h : x.1.2 = y.1.2
  · simp [h]; omega
  · simp [h]; omega
theorem swoN : SWO (ltOf cfN) where
  irrefl x := by rw [ltN]; unfold ltQ; simp
  trans x y z h1 h2 := by rw [ltN, ltQ_iff] at *; unfold ltP at *; omega
  ntrans x y z h1 h2 := by
    rw [ltN] at *
    rw [Bool.eq_false_iff, Ne, ltQ_iff] at *
    unfold ltP at *; omega
set_option maxHeartbeats 2000000 in
theorem before_cmp (x y : NPt) (W : World) : Calls Tryz.prog 30 #[.agg (encN x).toArray, .agg (encN y).toArray] W fun e w' => e = .returned (.int .i64 (cfN x y)) ∧ ∃ q os', w' = grow (W.drewN q) os' := by
  obtain ⟨⟨a, a'⟩, ha⟩ := x
  obtain ⟨⟨b, b'⟩, hb⟩ := y
  unfold near6 at ha hb
  simp only at ha hb
  have e1 : IntKind.i64.wrap (a' - b') = a' - b' := IntWalk.i64_in _ (by omega)
  have e2 : IntKind.i64.wrap (a - b) = a - b := IntWalk.i64_in _ (by omega)
  show Calls Tryz.prog 30 #[.agg #[.int .i64 a, .int .i64 a'], .agg #[.int .i64 b, .int .i64 b']] W fun e w' => e = .returned (.int .i64 (if a' = b' then a - b else a' - b')) ∧ ∃ q os', w' = grow (W.drewN q) os'
  by_cases h : a' = b'
  · rw [if_pos h]
    have hn : (!(a' == b')) = false := by simp [h]
    subst h
    go_enter Tryz.func30, Tryz.ntmps30
    go_wp2
    go_ret
    exact ⟨rfl, 0, _, by rw [alloc_eq_grow, alloc_eq_grow, grow_grow]; rfl⟩
  · rw [if_neg h]
    have hn : (!(a' == b')) = true := by simp [h]
    go_enter Tryz.func30, Tryz.ntmps30
    go_wp2
    go_ret
    exact ⟨rfl, 0, _, by rw [alloc_eq_grow, alloc_eq_grow, grow_grow]; rfl⟩
theorem attachN : ∀ (xs : List Pt), (∀ r ∈ xs, near6 r) → ∃ ys : List NPt, ys.map Subtype.val = xs
  | [], _ => ⟨[], rfl⟩
  | x :: xs, h => by
    obtain ⟨ys, hy⟩ := attachN xs (fun r hr => h r (by simp [hr]))
    exact ⟨⟨x, h x (by simp)⟩ :: ys, by simp [hy]⟩
theorem flatN (ys : List NPt) : ys.flatMap encN = (ys.map Subtype.val).flatMap encPt := by
  induction ys with
  | nil => rfl
  | cons y ys ih => simp [ih, encN]
theorem sort_corners (base : Nat) (w : World) (v : Value) (xs : List Pt) (hf : ∀ r ∈ xs, near6 r) (hown : w.ownsRow base 60 2 v xs.length (xs.flatMap encPt)) (hlen : xs.length < 4611686018427387904) (hB : base ≤ w.heap.size) :
    Calls Tryz.prog 29 #[v, .func (.func 30) #[] #[]] w fun e w' => e = .returned (.tuple #[]) ∧ ∃ ys : List Pt, ys.Perm xs ∧ ys.Pairwise (fun a b => ¬ ltP b a) ∧
      w'.ownsRow base 60 2 v ys.length (ys.flatMap encPt) ∧ Below base w w' := by
  obtain ⟨zs, rfl⟩ := attachN xs hf
  have eg : ∀ args w, (callFunc 30 args).run Tryz.prog w = .ok (.enter 30 args) w := enters_of Tryz.func30 (by kernel_rfl) rfl
  have hown' : w.ownsRow base 60 2 v zs.length (zs.flatMap encN) := by rw [flatN]; simpa using hown
  have h := sort_own (enc := encN) (k := 2) Tryz.sortPt Tryz.isAgg60 Tryz.sizeOf60 (by decide) (fun _ => rfl) (fun x u hu => by simp [encN, encPt] at hu; rcases hu with rfl | rfl <;> rfl) cfN swoN 30 #[] eg (fun W x y => before_cmp x y W) base _ w v zs hown' (by simpa using hlen)
  refine Calls.mono h fun e w' ⟨he, ys, hp, hs, ho, hg⟩ => ⟨he, ys.map Subtype.val, hp.map _, ?_, ?_, ?_⟩
  · rw [List.pairwise_map]
    refine hs.imp fun {a b} hab => ?_
    rw [ltN] at hab
    intro e
    rw [ltQ_iff.2 e] at hab
    simp at hab
  · rw [flatN] at ho; simpa using ho
  · exact own_grown (Below.refl _ _) hown' hg (Nat.le_refl _) hB
end Go.Proofs.YtneelidbgigehaaGreat

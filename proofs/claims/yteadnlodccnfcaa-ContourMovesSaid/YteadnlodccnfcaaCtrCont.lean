/- The pool's contour, walked. -/
import Derived.Test.YteadnlodccnfcaaCtrPool
namespace Go.Proofs.Yteadnlodccnfcaa
set_option linter.unusedSimpArgs false
set_option linter.unusedVariables false
set_option maxRecDepth 100000
open Go Go.Maps Go.RowKit Planar
attribute [local go_sem] Kin.cell Kin.frozen Kin.lt0 Kin.lt1 Kin.lt2 Kin.lt3
theorem neqP_run {a b : Pt} {r : Bool} (h : eqP a b = !r) : ∀ w : World, (binOp .neq 36 (.agg #[.int .i64 a.1, .int .i64 a.2]) (.agg #[.int .i64 b.1, .int .i64 b.2])).run Try.prog w = .ok (.bool r) w := fun w => by
  have e : r = !(eqP a b) := by rw [h]; simp
  subst e
  by_cases h1 : a.1 = b.1 <;> by_cases h2 : a.2 = b.2 <;> simp [go_sem, eqP, h1, h2]
/-- the length of the slice that lies in a block's first cell -/
def lenAt (w : World) (b : Nat) : Nat := match w.cell? ⟨b, 0, none⟩ with | some (.slice _ n _) => n | _ => 0
theorem lenAt_of {w : World} {b n c : Nat} {t : TypeId} {S : Option Addr} (h : Blk w b t #[.slice S n c]) : lenAt w b = n := by
  unfold lenAt; rw [h.cell 0]; rfl
/-- what stands at the head of the loop -/
structure CInv (B : Nat) (w wr : World) (m b3 b5 g6 : Nat) (R : List Sg) (p : Pt) (R' : List Sg) (a : Pt) (acc : List Pt) (S : Option Addr) (n cap : Nat) : Prop where
  x3 : Blk wr b3 36 #[.int .i64 p.1, .int .i64 p.2]
  x4 : Blk wr (b3 + 1) 42 #[.slice none 0 0]
  x5 : Blk wr b5 42 #[.slice S n cap]
  x6 : Blk wr g6 36 #[.int .i64 a.1, .int .i64 a.2]
  own : wr.ownsRow (b3 + 1 + 1) 36 2 (.slice S n cap) acc.length (acc.flatMap encPt)
  ne : (Value.slice S n cap).ownBlock ≠ some g6
  lt : b5 < g6
  pool : PoolR B wr m R'.length R'
  grown : w.grownBy wr (some m)
  sub : R'.Sublist R
  len : acc.length + R'.length = R.length
  wf : wfK a
  rel : (a = p ∧ walkP R p p = (acc, R')) ∨ (a ≠ p ∧ walkP R p p = (acc ++ (walkP R' p a).1, (walkP R' p a).2))
theorem cinv_app {B : Nat} {w wr w1 : World} {m b3 b5 g6 : Nat} {R : List Sg} {p : Pt} {R' : List Sg} {a : Pt} {acc : List Pt} {S : Option Addr} {n cap : Nat} {o : Obj} (h : CInv B w wr m b3 b5 g6 R p R' a acc S n cap) (hg : (wr.alloc o).grownBy w1 (Value.slice S n cap).ownBlock) (hB : B ≤ w.heap.size) (h3 : w.heap.size ≤ b3) :
    Blk w1 b3 36 #[.int .i64 p.1, .int .i64 p.2] ∧ Blk w1 (b3 + 1) 42 #[.slice none 0 0] ∧ Blk w1 b5 42 #[.slice S n cap] ∧ Blk w1 g6 36 #[.int .i64 a.1, .int .i64 a.2] ∧ PoolR B w1 m R'.length R' ∧ w.grownBy w1 (some m) := by
  have hlow := fun k e => (h.own.lt k e).1
  refine ⟨(h.x3.up _).grown hg (fun e => by have := hlow _ e.symm; omega), (h.x4.up _).grown hg (fun e => by have := hlow _ e.symm; omega), (h.x5.up _).grown hg (fun e => own_ne h.own h.x5 (by decide) e.symm), (h.x6.up _).grown hg (fun e => h.ne e.symm), ?_, ?_⟩
  · exact (h.pool.below ((Below.refl _ _).alloc (Nat.le_refl _) _)).row hg (fun k e => by have := hlow k e; omega) (h.pool.own h.own)
  · exact grownBy_row (grownBy_then h.grown ((Below.refl _ _).alloc h.grown.size _)) hg (fun k e => by have := hlow k e; omega)
theorem cinv_out {B : Nat} {w wr : World} {m b3 b5 g6 : Nat} {R : List Sg} {p : Pt} {R' : List Sg} {a : Pt} {acc : List Pt} {S : Option Addr} {n cap : Nat} (h : CInv B w wr m b3 b5 g6 R p R' a acc S n cap) (hB : B ≤ w.heap.size) (h3 : w.heap.size ≤ b3) (hw : walkP R p p = (acc, R')) (u : Value) :
    (∃ S' n' cap', Ending.returned (.agg #[.slice S n cap]) = .returned (.agg #[.slice S' n' cap']) ∧ (wr.setCell ⟨b3 + 1, 0, none⟩ u).ownsRow w.heap.size 36 2 (.slice S' n' cap') (walkP R p p).1.length ((walkP R p p).1.flatMap encPt)) ∧ PoolR B (wr.setCell ⟨b3 + 1, 0, none⟩ u) m (walkP R p p).2.length (walkP R p p).2 ∧ w.grownBy (wr.setCell ⟨b3 + 1, 0, none⟩ u) (some m) := by
  rw [hw]
  have hlow := fun k e => (h.own.lt k e).1
  refine ⟨⟨S, n, cap, rfl, own_base (own_grownBy h.own (grownBy_set _) (fun e => by have := hlow _ e; simp only at this; omega)) (by omega)⟩, ?_, grownBy_new h.grown (by show w.heap.size ≤ b3 + 1; omega) _⟩
  exact h.pool.row (grownBy_set _) (fun k e => by injection e with e; simp only at e; omega) (fun e => by injection e with e; exact h.pool.blk h.x4 e)
theorem own_lt_ne {w : World} {base : Nat} {e : TypeId} {size n : Nat} {v : Value} {xs : List Value} (h : w.ownsRow base e size v n xs) {g : Nat} (hg : w.heap.size ≤ g) : v.ownBlock ≠ some g := by
  intro e1; have := (h.lt g e1).2; omega
theorem cinv_next {B : Nat} {w wr w1 w5 : World} {m b3 b5 g6 c' : Nat} {R : List Sg} {p : Pt} {R' : List Sg} {a b' : Pt} {t' acc : List Pt} {S S' : Option Addr} {n n' cap cap' : Nat} (h : CInv B w wr m b3 b5 g6 R p R' a acc S n cap) (hB : B ≤ w.heap.size) (h3 : w.heap.size ≤ b3) (h35 : b3 + 1 < b5) (hw : ∀ s ∈ R, wfS s)
    (J : Blk w1 b3 36 #[.int .i64 p.1, .int .i64 p.2] ∧ Blk w1 (b3 + 1) 42 #[.slice none 0 0] ∧ Blk w1 b5 42 #[.slice S n cap] ∧ Blk w1 g6 36 #[.int .i64 a.1, .int .i64 a.2] ∧ PoolR B w1 m R'.length R' ∧ w.grownBy w1 (some m))
    (hO : w1.ownsRow (b3 + 1 + 1) 36 2 (.slice S' n' cap') (acc ++ [a]).length ((acc ++ [a]).flatMap encPt)) (hp5 : PoolR B w5 m c' (pop R' a)) (hc' : (pop R' a).length = c')
    (hg5 : ((w1.setCell ⟨b5, 0, none⟩ (.slice S' n' cap')).alloc (.cells #[.int .i64 a.1, .int .i64 a.2] 36)).grownBy w5 (some m)) (hp8 : PoolR B ((w1.setCell ⟨b5, 0, none⟩ (.slice S' n' cap')).alloc (.cells #[.int .i64 a.1, .int .i64 a.2] 36)) m (c' + 1) R') (hes : ends R' a = b' :: t') (hne : a ≠ p) :
    CInv B w ((w5.setCell ⟨w1.heap.size, 0, none⟩ (.int .i64 b'.1)).setCell ⟨w1.heap.size, 1, none⟩ (.int .i64 b'.2)) m b3 b5 w1.heap.size R p (pop R' a) b' (acc ++ [a]) S' n' cap' := by
  obtain ⟨j3, j4, j5, j6, jp, jg⟩ := J
  have l3 := j3.lt
  have l4 := j4.lt
  have l5 := j5.lt
  have hpl := pop_len hes
  have z5 : ∀ {g : Nat} {t : TypeId} {cs : Array Value}, Blk ((w1.setCell ⟨b5, 0, none⟩ (.slice S' n' cap')).alloc (.cells #[.int .i64 a.1, .int .i64 a.2] 36)) g t cs → Blk w5 g t cs := fun hb => hb.grown hg5 (by intro e; injection e with e; exact hp8.blk hb e)
  have k3 := z5 ((j3.far (p := ⟨b5, 0, none⟩) (by show b3 ≠ b5; omega) (.slice S' n' cap')).up _)
  have k4 := z5 ((j4.far (p := ⟨b5, 0, none⟩) (by show b3 + 1 ≠ b5; omega) (.slice S' n' cap')).up _)
  have k5 : Blk w5 b5 42 #[.slice S' n' cap'] := z5 ((j5.set_ 0 (.slice S' n' cap')).up _)
  have k6 : Blk w5 w1.heap.size 36 #[.int .i64 a.1, .int .i64 a.2] := by
    have h1 := Blk.new (w1.setCell ⟨b5, 0, none⟩ (.slice S' n' cap')) 36 #[.int .i64 a.1, .int .i64 a.2]
    have h2 : (w1.setCell ⟨b5, 0, none⟩ (.slice S' n' cap')).heap.size = w1.heap.size := by simp
    rw [h2] at h1
    exact z5 h1
  have o8 := (own_grownBy hO (grownBy_set (p := ⟨b5, 0, none⟩) (.slice S' n' cap')) (own_ne hO j5 (by decide))).alloc (.cells #[.int .i64 a.1, .int .i64 a.2] 36)
  have o5 := own_grownBy o8 hg5 (hp8.own o8)
  have ne := own_lt_ne hO (Nat.le_refl _)
  have q : ∀ {v : World} {i : Nat} (u : Value), PoolR B v m c' (pop R' a) → w1.heap.size ≠ m → PoolR B (v.setCell ⟨w1.heap.size, i, none⟩ u) m c' (pop R' a) := fun u hv hm => hv.row (grownBy_set _) (fun k e => by injection e with e; simp only at e; omega) (fun e => by injection e with e; exact hm e)
  have hm : w1.heap.size ≠ m := hp5.blk k6
  have hg1 : w.grownBy w5 (some m) := grownBy_trans (grownBy_then (grownBy_new jg (p := ⟨b5, 0, none⟩) (by show w.heap.size ≤ b5; omega) _) ((Below.refl _ _).alloc (by simp only [World.size_setCell]; exact jg.size) _)) hg5
  refine ⟨(k3.far (by show b3 ≠ w1.heap.size; omega) _).far (by show b3 ≠ w1.heap.size; omega) _, (k4.far (by show b3 + 1 ≠ w1.heap.size; omega) _).far (by show b3 + 1 ≠ w1.heap.size; omega) _, (k5.far (by show b5 ≠ w1.heap.size; omega) _).far (by show b5 ≠ w1.heap.size; omega) _, (k6.set_ 0 _).set_ 1 _, own_grownBy (own_grownBy o5 (grownBy_set _) ne) (grownBy_set _) ne, ne, l5, ?_, grownBy_new (grownBy_new hg1 (by show w.heap.size ≤ w1.heap.size; omega) _) (by show w.heap.size ≤ w1.heap.size; omega) _, List.eraseP_sublist.trans h.sub, ?_, ?_, ?_⟩
  · rw [hc']; exact q _ (q _ hp5 hm) hm
  · have := h.len; rw [List.length_append, List.length_singleton]; omega
  · exact (hw (a, b') (h.sub.subset (mem_ends.1 (by rw [hes]; simp)))).2
  · rcases h.rel with ⟨h1, _⟩ | ⟨_, h1⟩
    · exact absurd h1 hne
    · by_cases hb : b' = p
      · left; rw [h1, walk_end hes hb]; exact ⟨hb, rfl⟩
      · right; rw [h1, walk_on hes hb, List.append_assoc]; exact ⟨hb, rfl⟩
set_option maxHeartbeats 8000000 in
theorem contour_any {B : Nat} (w : World) (m : Nat) (R : List Sg) (p b : Pt) (t : List Pt) (h : PoolR B w m R.length R) (hBw : B ≤ w.heap.size) (hw : ∀ s ∈ R, wfS s) (hl : R.length ≤ 100000) (he : ends R p = b :: t) :
    Calls Try.prog 37 #[.map (some m), .agg #[.int .i64 p.1, .int .i64 p.2]] w fun e w' =>
      (∃ S n cap, e = .returned (.agg #[.slice S n cap]) ∧ w'.ownsRow w.heap.size 36 2 (.slice S n cap) (walkP R p p).1.length ((walkP R p p).1.flatMap encPt)) ∧ PoolR B w' m (walkP R p p).2.length (walkP R p p).2 ∧ w.grownBy w' (some m) := by
  obtain ⟨c, hc⟩ : ∃ c, (pop R p).length = c := ⟨_, rfl⟩
  have hpl := pop_len he
  rw [hc] at hpl
  rw [← hpl] at h hl
  have HP := Lib.hid h
  have HC := Lib.hid hc
  have HE := Lib.hid he
  have HW := Lib.hid hw
  have HPL := Lib.hid hpl
  have hwp : wfK p := (hw (p, b) (mem_ends.1 (by rw [he]; simp))).1
  have hml := h.lt
  clear h hc he hw hpl
  go_enter Try.func37, Try.ntmps37
  go_wp2_with fail
  have x3 := Blk.new w 36 #[.int .i64 p.1, .int .i64 p.2]
  have x4 := Blk.new (w.alloc (.cells #[.int .i64 p.1, .int .i64 p.2] 36)) 42 #[.slice none 0 0]
  have x5 := Blk.new (((w.alloc (.cells #[.int .i64 p.1, .int .i64 p.2] 36)).alloc (.cells #[.slice none 0 0] 42)).alloc (.cells #[.int .i64 p.1, .int .i64 p.2] 36)) 42 #[.slice (some ⟨w.heap.size + 1 + 1, 0, none⟩) 1 1]
  have xo := own_made ((w.alloc (.cells #[.int .i64 p.1, .int .i64 p.2] 36)).alloc (.cells #[.slice none 0 0] 42)) encPt_len (w.heap.size + 1 + 1) 36 [p] #[.int .i64 p.1, .int .i64 p.2] rfl (by simp only [World.size_alloc]; omega) (by show 1 ≤ maxLen; decide)
  have xg : Below w.heap.size w ((((w.alloc (.cells #[.int .i64 p.1, .int .i64 p.2] 36)).alloc (.cells #[.slice none 0 0] 42)).alloc (.cells #[.int .i64 p.1, .int .i64 p.2] 36)).alloc (.cells #[.slice (some ⟨w.heap.size + 1 + 1, 0, none⟩) 1 1] 42)) := (by repeat (first | with_reducible (first | exact blA | exact blB | refine blC _ ?_ | refine blD ?_ ?_ _ | refine blE ?_ | refine blF _ ?_ | refine blG ?_ _ | refine blH ?_ | refine blI ?_ ?_ _) | (simp only [World.size_alloc]; omega) | (simp <;> omega)))
  have xp := HP.out.below xg
  have B3 := (((x3.up _).up _).up _ : Blk ((((w.alloc (.cells #[.int .i64 p.1, .int .i64 p.2] 36)).alloc (.cells #[.slice none 0 0] 42)).alloc (.cells #[.int .i64 p.1, .int .i64 p.2] 36)).alloc (.cells #[.slice (some ⟨w.heap.size + 1 + 1, 0, none⟩) 1 1] 42)) _ _ _)
  have B4 := ((x4.up _).up _ : Blk ((((w.alloc (.cells #[.int .i64 p.1, .int .i64 p.2] 36)).alloc (.cells #[.slice none 0 0] 42)).alloc (.cells #[.int .i64 p.1, .int .i64 p.2] 36)).alloc (.cells #[.slice (some ⟨w.heap.size + 1 + 1, 0, none⟩) 1 1] 42)) _ _ _)
  have OW := xo.alloc (.cells #[.slice (some ⟨w.heap.size + 1 + 1, 0, none⟩) 1 1] 42)
  clear x3 x4 xo
  simp only [World.size_alloc] at x5 B3 B4 OW
  obtain ⟨w4, hw4⟩ : ∃ w4, ((((w.alloc (.cells #[.int .i64 p.1, .int .i64 p.2] 36)).alloc (.cells #[.slice none 0 0] 42)).alloc (.cells #[.int .i64 p.1, .int .i64 p.2] 36)).alloc (.cells #[.slice (some ⟨w.heap.size + 1 + 1, 0, none⟩) 1 1] 42)) = w4 := ⟨_, rfl⟩
  rw [hw4] at x5 B3 B4 OW xg xp ⊢
  obtain ⟨b3, hb3⟩ : ∃ b3, w.heap.size = b3 := ⟨_, rfl⟩
  obtain ⟨b5, hb5⟩ : ∃ b5, w.heap.size + 1 + 1 + 1 = b5 := ⟨_, rfl⟩
  have n4 : b3 + 1 < b5 := by omega
  have n3 : w.heap.size ≤ b3 := by omega
  rw [hb5] at x5 ⊢
  rw [hb3] at x5 B3 B4 OW ⊢
  have HB3 := Lib.hid B3
  have HB4 := Lib.hid B4
  have HB5 := Lib.hid x5
  have HOW := Lib.hid OW
  have HG := Lib.hid (below_grownBy (row := some m) xg)
  have HP4 := Lib.hid xp
  clear B3 B4 x5 OW xg xp hb3 hb5 hw4
  go_at_call 53
  refine (take_any w4 m c R p b t HP4.out hwp HE.out (by rw [← HPL.out]; omega)).mono ?_
  rintro e w5 ⟨rfl, hp5, hg5⟩
  have hI : CInv B w (w5.alloc (.cells #[.int .i64 b.1, .int .i64 b.2] 36)) m b3 b5 w5.heap.size R p (pop R p) b [p] (some ⟨b3 + 1 + 1, 0, none⟩) 1 1 := by
    have o5 : w5.ownsRow (b3 + 1 + 1) 36 2 (.slice (some ⟨b3 + 1 + 1, 0, none⟩) 1 1) ([p] : List Pt).length (([p] : List Pt).flatMap encPt) := own_grownBy HOW.out hg5 (HP4.out.own HOW.out)
    refine ⟨(HB3.out.grown hg5 (by intro e; injection e with e; exact HP4.out.blk HB3.out e)).up _, (HB4.out.grown hg5 (by intro e; injection e with e; exact HP4.out.blk HB4.out e)).up _, (HB5.out.grown hg5 (by intro e; injection e with e; exact HP4.out.blk HB5.out e)).up _, Blk.new _ _ _, o5.alloc _, own_lt_ne o5 (Nat.le_refl _), Nat.lt_of_lt_of_le HB5.out.lt hg5.size, by rw [HC.out]; exact hp5.below ((Below.refl _ _).alloc (Nat.le_refl _) _), grownBy_then (grownBy_trans HG.out hg5) ((Below.refl _ _).alloc (Nat.le_trans HG.out.size hg5.size) _), List.eraseP_sublist, by rw [HC.out, ← HPL.out]; exact Nat.add_comm _ _, (HW.out (p, b) (mem_ends.1 (by rw [HE.out]; simp))).2, ?_⟩
    by_cases hbp : b = p
    · exact .inl ⟨hbp, walk_end HE.out hbp⟩
    · exact .inr ⟨hbp, walk_on HE.out hbp⟩
  have HI := Lib.hid hI
  clear hI hp5 hg5
  go_wp2_with fail
  obtain ⟨g5, hg5⟩ : ∃ g5, w5.heap.size = g5 := ⟨_, rfl⟩
  rw [hg5] at HI ⊢
  obtain ⟨w6, hw6⟩ : ∃ w6, w5.alloc (.cells #[.int .i64 b.1, .int .i64 b.2] 36) = w6 := ⟨_, rfl⟩
  rw [hw6] at HI ⊢
  clear hg5 hw6 HB3 HB4 HB5 HOW HG HP4 HP
  go_loopw [6] (fun v6 wr => ∃ (g6 : Nat) (R' : List Sg) (a : Pt) (acc : List Pt) (S : Option Addr) (n cap : Nat), v6 = .pointer (some ⟨g6, 0, none⟩) ∧ Hid (CInv B w wr m b3 b5 g6 R p R' a acc S n cap)) (fun _ wr => c + 1 - lenAt wr b5)
  case atStart => exact ⟨_, _, _, _, _, _, _, rfl, HI⟩
  case round =>
    clear HI
    obtain ⟨g6, R', a, acc, S, n, cap, rfl, HI⟩ := hrel
    have a_0 : wr.cell? ⟨g6, 0, none⟩ = some (.int .i64 a.1) := HI.out.x6.cell 0
    have a_1 : wr.cell? ⟨g6, 1, none⟩ = some (.int .i64 a.2) := HI.out.x6.cell 1
    have p_0 : wr.cell? ⟨b3, 0, none⟩ = some (.int .i64 p.1) := HI.out.x3.cell 0
    have p_1 : wr.cell? ⟨b3, 1, none⟩ = some (.int .i64 p.2) := HI.out.x3.cell 1
    have o_0 : wr.cell? ⟨b5, 0, none⟩ = some (.slice S n cap) := HI.out.x5.cell 0
    have r_0 : wr.cell? ⟨b3 + 1, 0, none⟩ = some (.slice none 0 0) := HI.out.x4.cell 0
    have f_0 : wr.frozen? ⟨b3 + 1, 0, none⟩ = false := HI.out.x4.frozen 0
    have f_1 : wr.frozen? ⟨b5, 0, none⟩ = false := HI.out.x5.frozen 0
    have l3 := HI.out.x3.lt
    have l4 := HI.out.x4.lt
    have l5 := HI.out.x5.lt
    have l6 := HI.out.x6.lt
    have l56 := HI.out.lt
    by_cases hap : a = p
    · have hrun := neqP_run (r := false) (show eqP a p = !false from eqP_iff.2 hap)
      have HAP := Lib.hid hap
      clear hap
      go_wp2_with fail
      ((try simp only [Exit.inBlock, Exit.then]); refine bodyPost_ret (results_cell_row rfl _ _ _ _ _ (0, 0) _ rfl (HI.out.x4.set_ 0 _) Try.underlying42 rfl (by kernel_rfl)) rfl ?_)
      exact cinv_out HI.out hBw n3 (by rcases HI.out.rel with ⟨_, h⟩ | ⟨h, _⟩; exact h; exact absurd HAP.out h) _
    · have hrun := neqP_run (r := true) (show eqP a p = !true from eqP_ne hap)
      obtain ⟨A, cap2, hlk0, hrd⟩ := HI.out.pool.look HI.out.wf
      have hlk : (Instr.lookup 57 (.map (some m)) (.agg #[.int .i64 a.1, .int .i64 a.2]) false).run Try.prog wr = .ok (.slice A (ends R' a).length cap2) wr := hlk0
      rcases hes : ends R' a with _ | ⟨b', t'⟩
      · rw [hes] at hlk
        have HES := Lib.hid hes
        clear hes hlk0 hrd
        simp only [List.length_nil] at hlk
        go_wp2_with fail
        ((try simp only [Exit.inBlock, Exit.then]); refine bodyPost_ret (results_cell_row rfl _ _ _ _ _ (0, 0) _ rfl (HI.out.x4.set_ 0 _) Try.underlying42 rfl (by kernel_rfl)) rfl ?_)
        exact cinv_out HI.out hBw n3 (by rcases HI.out.rel with ⟨h, _⟩ | ⟨_, h⟩; exact absurd h hap; rw [h, walk_nil HES.out, List.append_nil]) _
      · rw [hes] at hlk
        have HES := Lib.hid hes
        clear hes hlk0 hrd
        simp only [List.length_cons] at hlk
        obtain ⟨S0, cap0, hs0⟩ := own_slc HI.out.own
        injection hs0 with hs1 hs2 hs3
        have hnn : n ≤ 100000 := by
          have hlen := HI.out.len
          have h2 := HPL.out
          omega
        subst hs2
        clear hs1 hs3
        go_wp2_with (at_builtin; refine wpList_app _ rfl _ _ 40 rfl encPt_len (by decide) oneP (b3 + 1 + 1) 36 (.agg #[.int .i64 0, .int .i64 0]) 16 infoPt2 rfl Try.underlying40 _ _ _ _ rfl (HI.out.own.alloc _) _ _ _ rfl (rd_one _ encPt_len _ a _ rfl) ?c1 (by decide) ?c2 ?_; (case c1 => (first | (simp only [List.length_append, List.length_cons, List.length_nil]; omega) | omega | (simp; omega))); (case c2 => exact (by repeat (first | with_reducible exact Nat.le_refl _ | assumption | with_reducible refine le_alloc ?_ _ | with_reducible refine le_drew ?_ | with_reducible refine Kin.le _ ?_ | assumption | omega | (simp only [World.size_alloc]; omega)))); intro v' w1 hown' hg hbel hat'; ((obtain ⟨S', cap', rfl⟩ := own_slc hown'); have HO1 := Lib.hid hown'; have HG1 := Lib.hid hg; have HAT := Lib.hid hat'; have J := cinv_app HI.out hg hBw n3; have w_6 : w1.cell? ⟨g6, 0, none⟩ = some (.int .i64 a.1) := J.2.2.2.1.cell 0; have w_61 : w1.cell? ⟨g6, 1, none⟩ = some (.int .i64 a.2) := J.2.2.2.1.cell 1; have w_5 : w1.cell? ⟨b5, 0, none⟩ = some (.slice S acc.length cap) := J.2.2.1.cell 0; have wf_5 : w1.frozen? ⟨b5, 0, none⟩ = false := J.2.2.1.frozen 0; have wl_5 : b5 < w1.heap.size := J.2.2.1.lt; have wl_6 : g6 < w1.heap.size := J.2.2.2.1.lt; have HJ := Lib.hid J; clear hown' hg hbel hat' J))
        obtain ⟨c', hc'⟩ : ∃ c', (pop R' a).length = c' := ⟨_, rfl⟩
        have hpl' := pop_len HES.out
        have HPL' := Lib.hid hpl'
        have HC' := Lib.hid hc'
        have hp9 : PoolR B ((w1.setCell ⟨b5, 0, none⟩ (.slice S' (acc.length + 1) cap')).alloc (.cells #[.int .i64 a.1, .int .i64 a.2] 36)) m (c' + 1) R' := by
          have h1 := (HJ.out.2.2.2.2.1.row (grownBy_set (p := ⟨b5, 0, none⟩) (.slice S' (acc.length + 1) cap')) (fun k e => by injection e with e; simp only at e; omega) (fun e => by injection e with e; exact HJ.out.2.2.2.2.1.blk HJ.out.2.2.1 e)).below ((Below.refl _ _).alloc (Nat.le_refl _) (.cells #[.int .i64 a.1, .int .i64 a.2] 36))
          rw [← hc', hpl']; exact h1
        clear hpl' hc'
        go_at_call 53
        refine (take_any _ m c' R' a b' t' hp9 HI.out.wf HES.out (by have := HI.out.len; have h2 := HPL.out; omega)).mono ?_
        rintro e w5 ⟨rfl, hp5, hg5⟩
        have hO1 : w1.ownsRow (b3 + 1 + 1) 36 2 (.slice S' (acc.length + 1) cap') (acc ++ [a]).length ((acc ++ [a]).flatMap encPt) := by
          have h := HO1.out
          rw [show (acc ++ [a]).length = acc.length + 1 by simp] at h ⊢
          exact h
        have hN := cinv_next HI.out hBw n3 n4 HW.out HJ.out hO1 hp5 HC'.out hg5 hp9 HES.out hap
        have HN := Lib.hid hN
        have k6 : Blk w5 w1.heap.size 36 #[.int .i64 a.1, .int .i64 a.2] := by
          have h1 := Blk.new (w1.setCell ⟨b5, 0, none⟩ (.slice S' (acc.length + 1) cap')) 36 #[.int .i64 a.1, .int .i64 a.2]
          have h2 : (w1.setCell ⟨b5, 0, none⟩ (.slice S' (acc.length + 1) cap')).heap.size = w1.heap.size := by simp
          rw [h2] at h1
          exact h1.grown hg5 (by intro e; injection e with e; exact hp9.blk h1 e)
        have k_0 : w5.cell? ⟨w1.heap.size, 0, none⟩ = some (.int .i64 a.1) := k6.cell 0
        have k_1 : w5.cell? ⟨w1.heap.size, 1, none⟩ = some (.int .i64 a.2) := k6.cell 1
        have kf_0 : w5.frozen? ⟨w1.heap.size, 0, none⟩ = false := k6.frozen 0
        have kf_1 : w5.frozen? ⟨w1.heap.size, 1, none⟩ = false := k6.frozen 1
        have kl := k6.lt
        clear hN hp5 hg5 hp9 k6 hO1
        go_wp2_with fail
        refine ⟨⟨_, _, _, _, _, _, _, rfl, HN⟩, ?_⟩
        rw [lenAt_of HN.out.x5, lenAt_of HI.out.x5]
        have h1 := HI.out.len
        have h2 := HPL.out
        have h3 := HPL'.out
        omega
end Go.Proofs.Yteadnlodccnfcaa

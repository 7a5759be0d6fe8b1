/- The pool: the unused segments, in a map from points to slices of points. -/
import Derived.Test.YteadnlodccnfcaaCtrChM
import Derived.Test.YteadnlodccnfcaaMapEnt
namespace Go.Proofs.Yteadnlodccnfcaa
set_option linter.unusedSimpArgs false
set_option linter.unusedVariables false
set_option maxRecDepth 100000
open Go Go.Maps Go.RowKit Planar
attribute [local go_sem] Kin.cell Kin.frozen Kin.lt0 Kin.lt1 Kin.lt2 Kin.lt3
theorem zero_pts (u : World) : (zeroValue 40).run Try.prog u = .ok (.slice none 0 0) u := by
  simp [go_sem]
/-- a block that is a map has no cells -/
theorem OwnM.no_cell {P : Program} {K : TypeId} {w : World} {b n : Nat} {F : Key → Option Value} (h : OwnM P K w b n F) (i : Nat) : w.cell? ⟨b, i, none⟩ = none := by
  obtain ⟨D, ⟨es, clock, h1, _⟩, _⟩ := h
  unfold World.cell?
  simp [h1]
theorem OwnM.not_blk {P : Program} {K : TypeId} {w : World} {b n g : Nat} {F : Key → Option Value} {t : TypeId} {cs : Array Value} (h : OwnM P K w b n F) (hb : Blk w g t cs) : g ≠ b := by
  obtain ⟨D, ⟨es, clock, h1, _⟩, _⟩ := h
  intro e; subst e
  unfold Blk at hb
  rw [h1] at hb; cases hb
theorem OwnM.not_own {P : Program} {K : TypeId} {w : World} {b n : Nat} {F : Key → Option Value} (h : OwnM P K w b n F) {base : Nat} {e : TypeId} {size k : Nat} {v : Value} {xs : List Value} (ho : w.ownsRow base e size v k xs) : v.ownBlock ≠ some b := by
  obtain ⟨D, ⟨es, clock, h1, _⟩, _⟩ := h
  rcases ho.2 with ⟨rfl, _⟩ | ⟨g, cap, cur, rfl, _, hg, _⟩
  · intro e; cases e
  · intro e; injection e with e
    have e' : g = b := e
    subst e'; rw [h1] at hg; cases hg
theorem OwnM.not_rd {P : Program} {K : TypeId} {w : World} {b n : Nat} {F : Key → Option Value} (h : OwnM P K w b n F) {v : Value} {xs : List Pt} (hr : Rd 2 encPt w v xs) : xs = [] ∨ v.ownBlock ≠ some b := by
  obtain ⟨A, cap, rfl, hc, hr⟩ := hr
  rcases hr with hr | ⟨g, off, rfl, hg, hcell⟩
  · exact .inl hr
  · cases xs with
    | nil => exact .inl rfl
    | cons x xs =>
      right; intro e; injection e with e
      have e' : g = b := e
      subst e'
      have := hcell 0 x rfl 0 _ rfl
      rw [h.no_cell] at this; cases this
/-- the pool in memory: map m; c more stores may be made -/
def PoolR (B : Nat) (w : World) (m c : Nat) (R : List Sg) : Prop :=
  ∃ n F, OwnM Try.prog 36 w m n F ∧ n + c ≤ 1000000 ∧ ∀ p, wfK p → match F p with | none => ends R p = [] | some v => Rd 2 encPt w v (ends R p) ∧ ∀ k, v.ownBlock = some k → k < B
theorem PoolR.lt {B : Nat} {w : World} {m c : Nat} {R : List Sg} (h : PoolR B w m c R) : m < w.heap.size := by
  obtain ⟨n, F, h1, _⟩ := h; exact h1.lt
theorem PoolR.blk {B : Nat} {w : World} {m c : Nat} {R : List Sg} (h : PoolR B w m c R) {g : Nat} {t : TypeId} {cs : Array Value} (hb : Blk w g t cs) : g ≠ m := by
  obtain ⟨n, F, h1, _⟩ := h; exact h1.not_blk hb
theorem PoolR.own {B : Nat} {w : World} {m c : Nat} {R : List Sg} (h : PoolR B w m c R) {base : Nat} {e : TypeId} {size k : Nat} {v : Value} {xs : List Value} (ho : w.ownsRow base e size v k xs) : v.ownBlock ≠ some m := by
  obtain ⟨n, F, h1, _⟩ := h; exact h1.not_own ho
theorem PoolR.rd {B : Nat} {w : World} {m c : Nat} {R : List Sg} (h : PoolR B w m c R) {v : Value} {xs : List Pt} (hr : Rd 2 encPt w v xs) : xs = [] ∨ v.ownBlock ≠ some m := by
  obtain ⟨n, F, h1, _⟩ := h; exact h1.not_rd hr
/-- nothing that lies in w now has changed -/
theorem PoolR.below {B : Nat} {w w' : World} {m c : Nat} {R : List Sg} (h : PoolR B w m c R) (hb : Below w.heap.size w w') : PoolR B w' m c R := by
  obtain ⟨n, F, h1, h2, h3⟩ := h
  refine ⟨n, F, h1.below hb h1.lt, h2, fun p hp => ?_⟩
  have := h3 p hp
  cases hv : F p with
  | none => rw [hv] at this; exact this
  | some v => rw [hv] at this; exact ⟨Rd.below this.1 hb, this.2⟩
theorem PoolR.look {B : Nat} {w : World} {m c : Nat} {R : List Sg} (h : PoolR B w m c R) {p : Pt} (hp : wfK p) : ∃ A cap, (Instr.lookup 57 (.map (some m)) (kv p) false).run Try.prog w = .ok (.slice A (ends R p).length cap) w ∧ Rd 2 encPt w (.slice A (ends R p).length cap) (ends R p) := by
  obtain ⟨n, F, h1, h2, h3⟩ := h
  have hr := h1.look ptKey Try.underlying57 (zero_pts w) hp
  have := h3 p hp
  cases hv : F p with
  | none =>
    rw [hv] at this hr
    simp only at this
    exact ⟨none, 0, by rw [hr, this]; rfl, by rw [this]; exact Rd.nil⟩
  | some v =>
    rw [hv] at this hr
    obtain ⟨A, cap, rfl, _⟩ := Rd.open_ this.1
    exact ⟨A, cap, hr, this.1⟩
theorem own_slc {W : World} {base n size : Nat} {e : TypeId} {v : Value} {xs : List Value} (h : W.ownsRow base e size v n xs) : ∃ (A : Option Addr) (cap : Nat), v = .slice A n cap := by
  rcases h.2 with ⟨rfl, rfl⟩ | ⟨g, cap, cur, rfl, _⟩
  · exact ⟨_, _, rfl⟩
  · exact ⟨_, _, rfl⟩
theorem rd_tail {w : World} {g off n cap : Nat} {b : Pt} {t : List Pt} (h : Rd 2 encPt w (.slice (some ⟨g, off, none⟩) n cap) (b :: t)) (A : Addr) (hA : A = ⟨g, off + 2, none⟩) (n' cap' : Nat) (hn : n' = t.length) (hc : n' ≤ cap') : Rd 2 encPt w (.slice (some A) n' cap') t := by
  obtain ⟨A', c', hv, hc', hr⟩ := h
  injection hv with e1 e2 e3
  subst hA hn
  refine ⟨_, cap', rfl, hc, ?_⟩
  rcases hr with hr | ⟨g', off', hA, hg, hcell⟩
  · cases hr
  · rw [← e1] at hA
    injection hA with hA
    injection hA with e4 e5
    subst e4 e5
    refine .inr ⟨g, off + 2, rfl, hg, fun i x hx j u hu => ?_⟩
    have := hcell (i + 1) x (by simpa using hx) j u hu
    rw [show off + 2 + i * 2 + j = off + (i + 1) * 2 + j by omega]
    exact this
theorem Blk.up {w : World} {g : Nat} {t : TypeId} {cs : Array Value} (h : Blk w g t cs) (o : Obj) : Blk (w.alloc o) g t cs := h.below (Below.alloc (Below.refl _ _) (Nat.le_refl _) _)
theorem PoolR.row {B : Nat} {w w' : World} {m c : Nat} {R : List Sg} {row : Option Nat} (h : PoolR B w m c R) (hg : w.grownBy w' row) (hr : ∀ k, row = some k → B ≤ k) (hm : row ≠ some m) : PoolR B w' m c R := by
  obtain ⟨n, F, h1, h2, h3⟩ := h
  refine ⟨n, F, h1.kept hg (fun e => hm e.symm), h2, fun p hp => ?_⟩
  have := h3 p hp
  cases hv : F p with
  | none => rw [hv] at this; exact this
  | some v =>
    rw [hv] at this
    refine ⟨Rd.grown this.1 hg ?_, this.2⟩
    rcases Rd.blk_lt this.1 with h0 | ⟨b, hb, _⟩
    · exact .inl h0
    · right; rw [hb]; intro e
      have q1 := this.2 b hb
      have q2 := hr b e.symm
      omega
theorem grownBy_new {w w' : World} {row : Option Nat} (h : w.grownBy w' row) {p : Addr} (hp : w.heap.size ≤ p.block) (u : Value) : w.grownBy (w'.setCell p u) row := by
  have h2 : w'.grownBy (w'.setCell p u) (some p.block) := grownBy_set u
  exact ⟨h2.os.trans h.os, h2.tape.trans h.tape, h2.output.trans h.output, Nat.le_trans h.size h2.size, fun i hi hr => (h2.block i (Nat.lt_of_lt_of_le hi h.size) (by intro e; injection e with e; omega)).trans (h.block i hi hr)⟩
theorem grownBy_row {w wr w1 : World} {r row : Option Nat} (h : w.grownBy wr r) (hg : wr.grownBy w1 row) (hr : ∀ k, row = some k → w.heap.size ≤ k) : w.grownBy w1 r :=
  ⟨hg.os.trans h.os, hg.tape.trans h.tape, hg.output.trans h.output, Nat.le_trans h.size hg.size, fun i hi hne => (hg.block i (Nat.lt_of_lt_of_le hi h.size) (fun e => by have := hr i e.symm; omega)).trans (h.block i hi hne)⟩
theorem grownBy_then {w w' w'' : World} {row : Option Nat} (h : w.grownBy w' row) (hb : Below w.heap.size w' w'') : w.grownBy w'' row :=
  ⟨hb.os.trans h.os, hb.tape.trans h.tape, hb.output.trans h.output, Nat.le_trans h.size hb.size, fun i hi hr => (hb.block i hi).trans (h.block i hi hr)⟩
theorem PoolR.step {B : Nat} {w w' : World} {m n n' c : Nat} {F F' : Key → Option Value} {R' : List Sg} (hM : OwnM Try.prog 36 w m n F) (hF : ∀ p, wfK p → match F' p with | none => ends R' p = [] | some v => Rd 2 encPt w v (ends R' p) ∧ ∀ k, v.ownBlock = some k → k < B)
    (hg : w.grownBy w' (some m)) (hM' : OwnM Try.prog 36 w' m n' F') (hn : n' + c ≤ 1000000) : PoolR B w' m c R' := by
  refine ⟨n', F', hM', hn, fun p hp => ?_⟩
  have := hF p hp
  cases hv : F' p with
  | none => rw [hv] at this; exact this
  | some v =>
    rw [hv] at this
    exact ⟨Rd.grown this.1 hg (hM.not_rd this.1), this.2⟩
set_option maxHeartbeats 4000000 in
theorem take_any {B : Nat} (w : World) (m c : Nat) (R : List Sg) (p b : Pt) (t : List Pt) (h : PoolR B w m (c + 1) R) (hp : wfK p) (he : ends R p = b :: t) (hl : R.length ≤ 100000) :
    Calls Try.prog 53 #[.map (some m), .agg #[.int .i64 p.1, .int .i64 p.2]] w fun e w' => e = .returned (.agg #[.int .i64 b.1, .int .i64 b.2]) ∧ PoolR B w' m c (pop R p) ∧ w.grownBy w' (some m) := by
  obtain ⟨n, F, hM, hn, hF⟩ := h
  have hFp := hF p hp
  obtain ⟨v, hv⟩ : ∃ v, F p = some v := by
    cases hv : F p with
    | none => rw [hv] at hFp; simp only at hFp; rw [he] at hFp; cases hFp
    | some v => exact ⟨v, rfl⟩
  rw [hv, he] at hFp
  simp only at hFp
  obtain ⟨hFp, hlow⟩ := hFp
  have hlt : t.length ≤ 100000 := by
    have h1 : (ends R p).length ≤ R.length := by unfold ends; rw [List.length_map]; exact List.length_filter_le _ _
    rw [he] at h1; simp at h1; omega
  obtain ⟨A, cap, rfl, hcap, hop⟩ := hFp.open_
  obtain ⟨g, off, rfl, hg, hc⟩ := hop 0 b rfl
  have b_0 : w.cell? ⟨g, off, none⟩ = some (.int .i64 b.1) := by simpa using hc 0 b rfl 0 _ rfl
  have b_1 : w.cell? ⟨g, off + 1, none⟩ = some (.int .i64 b.2) := by simpa using hc 0 b rfl 1 _ rfl
  obtain ⟨k, hk⟩ : ∃ k, t.length = k := ⟨_, rfl⟩
  rw [List.length_cons, hk] at hFp hv
  rw [List.length_cons] at hcap
  have HK := Lib.hid hk
  rw [hk] at hcap hlt
  have HRD := Lib.hid hFp
  have HM := Lib.hid hM
  have HF := Lib.hid hF
  have HV := Lib.hid hv
  have HE := Lib.hid he
  have hML := hM.lt
  clear hk hop hc hFp hM hF hv he
  have hgm : g ≠ m := by
    rcases HM.out.not_rd HRD.out with h1 | h1
    · cases h1
    · intro e; exact h1 (by rw [e]; rfl)
  have hun : m < (w.alloc (.cells #[.int .i64 p.1, .int .i64 p.2] 36)).heap.size := by rw [World.size_alloc]; omega
  have hlk : ∀ x y, ((Instr.lookup 57 (.map (some m)) (.agg #[.int .i64 p.1, .int .i64 p.2]) false).run Try.prog ((w.alloc x).alloc y)) = .ok (.slice (some ⟨g, off, none⟩) (k + 1) cap) ((w.alloc x).alloc y) := fun x y => by
    have h9 := ((HM.out.alloc x).alloc y).look ptKey Try.underlying57 (zero_pts _) hp
    rw [HV.out] at h9
    exact h9
  by_cases hk0 : k = 0
  · subst hk0
    obtain ⟨w1, hd, hM1, hg1, hs1⟩ := ((HM.out.alloc (.cells #[.int .i64 p.1, .int .i64 p.2] 36)).alloc (.cells #[.int .i64 0, .int .i64 0] 36)).drop (ty := 0) ptKey Try.underlying57 hp
    have hd' : (Builtin.delete_ #[57, 36] 0 #[.map (some m), .agg #[.int .i64 p.1, .int .i64 p.2]]).run Try.prog ((w.alloc (.cells #[.int .i64 p.1, .int .i64 p.2] 36)).alloc (.cells #[.int .i64 0, .int .i64 0] 36)) = .ok (.tuple #[]) w1 := hd
    have hgA : w.grownBy w1 (some m) := grownBy_trans (below_grownBy (((Below.refl _ w).alloc (Nat.le_refl _) _).alloc (le_alloc (Nat.le_refl _) _) _)) hg1
    have HB4 : Blk w1 (w.heap.size + 1) 36 #[.int .i64 0, .int .i64 0] := by
      have h1 := Blk.new (w.alloc (.cells #[.int .i64 p.1, .int .i64 p.2] 36)) 36 #[.int .i64 0, .int .i64 0]
      rw [World.size_alloc] at h1
      exact h1.grown hg1 (by intro e; injection e with e; omega)
    have c_0 : w1.cell? ⟨g, off, none⟩ = some (.int .i64 b.1) := (World.cell?_of_block (w := w) (hgA.block g hg (by intro e; injection e with e; exact hgm e))).trans b_0
    have c_1 : w1.cell? ⟨g, off + 1, none⟩ = some (.int .i64 b.2) := (World.cell?_of_block (w := w) (hgA.block g hg (by intro e; injection e with e; exact hgm e))).trans b_1
    have hg1' : g < w1.heap.size := Nat.lt_of_lt_of_le hg hgA.size
    have d_0 : w1.cell? ⟨w.heap.size + 1, 0, none⟩ = some (.int .i64 0) := HB4.cell 0
    have d_1 : w1.cell? ⟨w.heap.size + 1, 1, none⟩ = some (.int .i64 0) := HB4.cell 1
    have f_0 : w1.frozen? ⟨w.heap.size + 1, 0, none⟩ = false := HB4.frozen 0
    have f_1 : w1.frozen? ⟨w.heap.size + 1, 1, none⟩ = false := HB4.frozen 1
    have hB4 := HB4.lt
    have HBB := Lib.hid HB4
    have HM1 := Lib.hid hM1
    have HG := Lib.hid hgA
    clear hd hg1 hs1 HB4 hM1 hgA
    go_enter Try.func53, Try.ntmps53
    go_wp2_with fail
    ((try simp only [Exit.inBlock, Exit.then]); refine bodyPost_ret (results_cell_row rfl _ _ _ _ _ (0, 0) _ rfl ((HBB.out.set_ 0 _).set_ 1 _) Try.underlying36 rfl (by kernel_rfl)) rfl ?_)
    have hgF := grownBy_new (grownBy_new HG.out (p := ⟨w.heap.size + 1, 0, none⟩) (Nat.le_succ _) (.int .i64 b.1)) (p := ⟨w.heap.size + 1, 1, none⟩) (Nat.le_succ _) (.int .i64 b.2)
    refine ⟨rfl, PoolR.step HM.out (fun q hq => ?_) hgF ((HM1.out.setCell (a := ⟨w.heap.size + 1, 0, none⟩) (by show m ≠ w.heap.size + 1; omega) _).setCell (a := ⟨w.heap.size + 1, 1, none⟩) (by show m ≠ w.heap.size + 1; omega) _) (by omega), hgF⟩
    have h5 := HF.out q hq
    unfold delM
    rw [ends_pop]
    by_cases e : q = p
    · rw [if_pos e, if_pos e, HE.out, List.eq_nil_of_length_eq_zero HK.out]; rfl
    · rw [if_neg e, if_neg e]; exact h5
  · go_enter Try.func53, Try.ntmps53
    have h5 : ((k : Int) + 1 == 1) = false := by rw [beq_eq_false_iff_ne]; omega
    have h6 : ¬ ((k : Int) + 1 = 1) := by omega
    go_wp2_with fail
    ((refine wp_region_tailK (W := w) 4 (by kernel_rfl) (by kernel_rfl) (by repeat (first | with_reducible (first | exact blA | exact blB | refine blC _ ?_ | refine blD ?_ ?_ _ | refine blE ?_ | refine blF _ ?_ | refine blG ?_ _ | refine blH ?_ | refine blI ?_ ?_ _) | (simp only [World.size_alloc]; omega) | (simp <;> omega))) ?_); simp only [List.take_succ_cons, List.take_zero, List.drop_succ_cons, List.drop_zero]; (repeat' (first | go_big_quiet_step (fail) | ((refine wpQuiet_guard rfl rfl rfl rfl (fun hg => ?_) (fun hg => ?_)) <;> (fail_if_success (first | guard_hyp hg : true = true | guard_hyp hg : false = false)) <;> (try simp only [decide_eq_true_eq, decide_eq_false_iff_not] at hg) <;> simp only [Act.put, List.setIfInBounds_toArray, List.set_cons_zero, List.set_cons_succ]))); all_goals ((with_reducible refine wpQuiet_nil ?_); intro zq hz))
    have HMz := Lib.hid ((HM.out.alloc (.cells #[.int .i64 p.1, .int .i64 p.2] 36)).alloc (.cells #[.int .i64 0, .int .i64 0] 36) |>.below hz (by rw [World.size_alloc, World.size_alloc]; omega))
    refine wpList_upd zq.1 rfl _ _ _ 57 rfl 36 40 ptKey Try.underlying57 m n F rfl HMz.out (by unfold maxLen; omega) p _ rfl rfl hp ?_
    intro w1 hM1 hg1 hs1
    have hgA : w.grownBy w1 (some m) := grownBy_trans (below_grownBy zq.2) hg1
    have HB4 : Blk w1 (w.heap.size + 1) 36 #[.int .i64 0, .int .i64 0] := by
      have h1 := Blk.new (w.alloc (.cells #[.int .i64 p.1, .int .i64 p.2] 36)) 36 #[.int .i64 0, .int .i64 0]
      rw [World.size_alloc] at h1
      exact (h1.below hz).grown hg1 (by intro e; injection e with e; omega)
    have c_0 : w1.cell? ⟨g, off, none⟩ = some (.int .i64 b.1) := (World.cell?_of_block (w := w) (hgA.block g hg (by intro e; injection e with e; exact hgm e))).trans b_0
    have c_1 : w1.cell? ⟨g, off + 1, none⟩ = some (.int .i64 b.2) := (World.cell?_of_block (w := w) (hgA.block g hg (by intro e; injection e with e; exact hgm e))).trans b_1
    have hg1' : g < w1.heap.size := Nat.lt_of_lt_of_le hg hgA.size
    have d_0 : w1.cell? ⟨w.heap.size + 1, 0, none⟩ = some (.int .i64 0) := HB4.cell 0
    have d_1 : w1.cell? ⟨w.heap.size + 1, 1, none⟩ = some (.int .i64 0) := HB4.cell 1
    have f_0 : w1.frozen? ⟨w.heap.size + 1, 0, none⟩ = false := HB4.frozen 0
    have f_1 : w1.frozen? ⟨w.heap.size + 1, 1, none⟩ = false := HB4.frozen 1
    have hB4 := HB4.lt
    have HBB := Lib.hid HB4
    have HM1 := Lib.hid hM1
    have HG := Lib.hid hgA
    clear hg1 hs1 HB4 hM1 hgA hz
    go_wp2_with fail
    ((try simp only [Exit.inBlock, Exit.then]); refine bodyPost_ret (results_cell_row rfl _ _ _ _ _ (0, 0) _ rfl ((HBB.out.set_ 0 _).set_ 1 _) Try.underlying36 rfl (by kernel_rfl)) rfl ?_)
    have hgF := grownBy_new (grownBy_new HG.out (p := ⟨w.heap.size + 1, 0, none⟩) (Nat.le_succ _) (.int .i64 b.1)) (p := ⟨w.heap.size + 1, 1, none⟩) (Nat.le_succ _) (.int .i64 b.2)
    refine ⟨rfl, PoolR.step HM.out (fun q hq => ?_) hgF ((HM1.out.setCell (a := ⟨w.heap.size + 1, 0, none⟩) (by show m ≠ w.heap.size + 1; omega) _).setCell (a := ⟨w.heap.size + 1, 1, none⟩) (by show m ≠ w.heap.size + 1; omega) _) (by omega), hgF⟩
    have h5 := HF.out q hq
    unfold updM
    rw [ends_pop]
    by_cases e : q = p
    · rw [if_pos e, if_pos e, HE.out]
      exact ⟨rd_tail HRD.out _ rfl _ _ HK.out.symm (by omega), fun x hx => hlow x (by rw [← hx]; rfl)⟩
    · rw [if_neg e, if_neg e]; exact h5
end Go.Proofs.Yteadnlodccnfcaa

/- Lemmas: TopWl. -/
import Derived.Test.YtneelidbgigehaaGreatT43
import Derived.Test.YtneelidbgigehaaGreatT46
import Derived.Test.YtneelidbgigehaaGreatT22
import Derived.Test.YtneelidbgigehaaGreatT17
import Derived.Test.YtneelidbgigehaaGreatT32
import Derived.Test.YtneelidbgigehaaGreatT07
/- What the law of the walls calls besides: walked. -/
/- What the law of the walls calls besides: walked. -/
namespace Go.Proofs.YtneelidbgigehaaGreat
set_option linter.unusedSimpArgs false
set_option linter.unusedVariables false
set_option maxRecDepth 100000
open Go Go.RowKit Runs Reg Wal
open Trk (Cl Tr tval oncT)
attribute [local go_sem] Kin.cell Kin.frozen Kin.lt0 Kin.lt1 Kin.lt2 Kin.lt3 run_mkf
namespace Wal
theorem ero_cnt {rows : List Reg.Row} (hv : rvalid rows = true) (hn : cntR rows ≤ 200) {n : Nat} (h64 : n ≤ 60) {all : List Tr} (h : Wls rows n all) : Sub (cov (oncT all)) rows := fun x y hm => by
  obtain ⟨i, hi, hw⟩ := (cov_walls hv hn (by omega) h x y).1 hm
  have h1 := (wk_in (eroR_valid rows i) hw).1
  exact ero_sub hv (by omega) (by omega) _ _ h1
theorem wls_small {rows : List Reg.Row} (hv : rvalid rows = true) (hn : cntR rows ≤ 200) {n : Nat} (h64 : n ≤ 60) {all : List Tr} (h : Wls rows n all) : (oncT all).length ≤ 200 ∧ (cellsT (oncT all)).length ≤ 200 := by
  have h1 := cnt_mono (cov_valid _) hv (ero_cnt hv hn h64 h)
  have h2 := cnt_onc all
  have h3 : cov (oncT all) = ofR (cellsT (oncT all)) := rfl
  rw [h3, h2] at h1
  rw [cellsT_onc]
  have h4 := flat_count (f := fun t : Tr => t.2) (l := oncT all) fun t ht => by
    have := (Trk.tval_len (Trk.onc_val ht)).2.1
    show 0 < t.2.length
    omega
  omega
theorem wk_small {rows : List Reg.Row} (hv : rvalid rows = true) (hn : cntR rows ≤ 200) {n : Nat} (h64 : n ≤ 60) {ts : List Tr} (h : WkL (eroR rows (n : Int)) ts) : ts.length ≤ 800 ∧ (cellsT ts).length ≤ 65536 * 800 := by
  have hk := ck_ero hv hn (j := (n : Int)) (by omega) (by omega)
  obtain ⟨h1, _, h2⟩ := wkL_spec (rvalid_iff.1 (eroR_valid rows n)) (by omega) h
  have h3 := cellsT_len (l := ts) (m := 65536) fun t ht => (Trk.tval_len (h1 t ht)).2.2
  have h4 : 65536 * ts.length ≤ 65536 * 800 := Nat.mul_le_mul_left _ (by omega)
  omega
end Wal
theorem same18_yes (v u : Value) (a : List Reg.Row) (w : World) (ha : RdReg w v a) (hb : RdReg w u a) (ba : RBd a) :
    Calls Tryz.prog 11 #[v, u] w fun e w' => e = .returned (.bool true) ∧ Below w.heap.size w w' := by
  have := same18_any v u a a w ha hb ba ba
  simpa using this
theorem subtract18_is {r : List Reg.Row} (v u : Value) (a b : List Reg.Row) (w : World) (ha : RdReg w v a) (hb : RdReg w u b) (va : RBd a) (vb : RBd b) (hr : rop (opf 0) a b = r) :
    Calls Tryz.prog 15 #[v, u] w fun e w' => (∃ A n c, e = .returned (.agg #[.slice A n c]) ∧ n = r.length ∧ RdReg w' (.agg #[.slice A n c]) r) ∧ Below w.heap.size w w' := by
  subst hr
  exact (subtract18_any v u a b w ha hb va vb).mono fun e w' ⟨⟨A, c, he, hr⟩, hb⟩ => ⟨⟨A, _, c, he, rfl, hr⟩, hb⟩
theorem run_fieldW (A : Option Addr) (n c : Nat) (w : World) : (Instr.field 24 (.agg #[.slice A n c]) 0).run Tryz.prog w = .ok (.slice A n c) w := by
  have h := Tryz.underlying24
  simp [Instr.field, run_underlying h, go_sem, part, asAgg]
set_option maxHeartbeats 4000000 in
theorem within18_t {a b : List Reg.Row} (v u : Value) (w : World) (ha : RdReg w v a) (hb : RdReg w u b) (h : withinR a b = true) :
    Calls Tryz.prog 17 #[v, u] w fun e w' => e = .returned (.bool true) ∧ Below w.heap.size w w' := by
  have hx := h
  unfold withinR at hx
  simp only [Bool.and_eq_true, List.isEmpty_iff] at hx
  obtain ⟨⟨va, vb⟩, h0⟩ := hx
  obtain ⟨A, capA, rfl⟩ := ha.slice_
  obtain ⟨B, capB, rfl⟩ := hb.slice_
  obtain ⟨n, hn⟩ : ∃ n, a.length = n := ⟨_, rfl⟩
  obtain ⟨m, hm⟩ : ∃ m, b.length = m := ⟨_, rfl⟩
  rw [hn] at ha ⊢
  rw [hm] at hb ⊢
  have HA := Lib.hid ha
  have HB := Lib.hid hb
  have HVA := Lib.hid va
  have HVB := Lib.hid vb
  have H0 := Lib.hid h0
  clear h va vb h0 ha hb hn hm
  have hfr := run_fieldW
  go_enter Tryz.func17, Tryz.ntmps17
  go_wp2_with fail
  obtain ⟨W1, hW1⟩ : ∃ W1, (w.alloc (.cells #[.slice A n capA] 24)).alloc (.cells #[.slice B m capB] 24) = W1 := ⟨_, rfl⟩
  obtain ⟨g, hg⟩ : ∃ g, w.heap.size = g := ⟨_, rfl⟩
  have hb1 : Below w.heap.size w W1 := by rw [← hW1]; exact gRw
  have BA : Blk W1 g 24 #[.slice A n capA] := by rw [← hW1, ← hg]; exact (Blk.new w _ _).al_ _
  have BB : Blk W1 (g + 1) 24 #[.slice B m capB] := by
    have := Blk.new (w.alloc (.cells #[.slice A n capA] 24)) 24 #[.slice B m capB]
    rw [World.size_alloc, hW1, hg] at this; exact this
  have a_0 : W1.cell? ⟨g, 0, none⟩ = some (.slice A n capA) := BA.cell 0
  have a_l := BA.lt
  have b_0 : W1.cell? ⟨g + 1, 0, none⟩ = some (.slice B m capB) := BB.cell 0
  have b_l := BB.lt
  have HA1 := Lib.hid (HA.out.below hb1)
  have HB1 := Lib.hid (HB.out.below hb1)
  have HW1 := Lib.hid hb1
  rw [hW1, hg]
  clear hW1 hg hb1 BA BB
  (go_at_call 5; (with_reducible refine (Kin.callK (W := W1) gRw (valid18_is _ a _ HA1.out (rbd_v HVA.out) HVA.out)).mono ?_); rintro e w' ⟨z2, rfl, hz2, rfl⟩; skip)
  go_wp2_with fail
  have h2 := HB1.out.below z2.2
  (go_at_call 5; (with_reducible refine (Kin.callK (W := W1) gRw (valid18_is _ b _ h2 (rbd_v HVB.out) HVB.out)).mono ?_); rintro e w' ⟨z3, rfl, hz3, rfl⟩; skip)
  go_wp2_with fail
  have h3 := HA1.out.below z3.2
  have h4 := HB1.out.below z3.2
  (go_at_call 15; (with_reducible refine (Kin.callK (W := W1) gRw (subtract18_is _ _ a b _ h3 h4 (rbd_v HVA.out) (rbd_v HVB.out) H0.out)).mono ?_); rintro e w' ⟨z4, ⟨R, nR, cR, rfl, hnR, hr⟩, hz4, rfl⟩; skip)
  simp only [List.length_nil] at hnR
  subst hnR
  go_wp2_with fail
  go_ret
  exact ⟨rfl, HW1.out.trans (z4.2.mono HW1.out.size)⟩
set_option maxHeartbeats 8000000 in
theorem filled_any (w : World) : Calls Tryz.prog 12 #[] w fun e w' => e = .returned (.bool true) ∧ Below w.heap.size w w' := by
  have s5 : Calls Tryz.prog 21 #[.int .i64 0, .int .i64 0, .int .i64 5] w fun e w' => (∃ S, e = .returned (.agg #[S]) ∧ RdReg w' (.agg #[S]) sq5) ∧ Below w.heap.size w w' := by
    have h := square_any 0 0 5 w (by omega) (by omega) (by omega)
    rw [sq5_sq] at h
    exact h
  have s1 : ∀ w : World, Calls Tryz.prog 21 #[.int .i64 1, .int .i64 1, .int .i64 3] w fun e w' => (∃ S, e = .returned (.agg #[S]) ∧ RdReg w' (.agg #[S]) sq1) ∧ Below w.heap.size w w' := fun w => by
    have h := square_any 1 1 3 w (by omega) (by omega) (by omega)
    rw [sq1_sq] at h
    exact h
  have HS1 := Lib.hid s1
  clear s1
  have mixed : Tryz.prog.follows .mixedOrders = true := by kernel_rfl
  go_enter Tryz.func12, Tryz.ntmps12
  go_wp2_with fail
  (go_at_call 21; (with_reducible refine (Kin.callK (W := w) gRw (s5)).mono ?_); rintro e w' ⟨z1, ⟨S, rfl, hS⟩, hz1, rfl⟩; skip)
  obtain ⟨W1, hW1⟩ : ∃ W1, z1.1 = W1 := ⟨_, rfl⟩
  have hb1 := z1.2
  rw [hW1] at hS hb1 ⊢
  have HRS := Lib.hid hS
  have HB1 := Lib.hid hb1
  clear hW1 hz1 hb1 hS s5
  go_wp2_with fail
  have hw := walls_any (.agg #[S]) sq5 1 W1 HRS.out (rvalid_iff.2 sq5_v) (by decide) (by omega)
  rw [show ((1 : Nat) : Int) = 1 from rfl, sq5_ero] at hw
  (go_at_call 13; (with_reducible refine (Kin.callK (W := W1) gRw (hw)).mono ?_); rintro e w' ⟨z2, ⟨u2, A2, m2, c2, all, rfl, hwl, hu2, hr2⟩, hz2, rfl⟩; skip)
  obtain ⟨W2, hW2⟩ : ∃ W2, z2.1 = W2 := ⟨_, rfl⟩
  have hb2 := z2.2
  rw [hW2] at hu2 hr2 hb2 ⊢
  rw [sq5_walls hwl] at hu2
  obtain ⟨A3, cap3, rfl, hcap3, hop3⟩ := trks_open hu2
  obtain ⟨b3, off3, rfl, hb3, hc3⟩ := hop3 0 _ rfl
  obtain ⟨S4, c4, _, _, k_2, _, _⟩ := hc3 0 _ rfl
  have k_2' : W2.cell? ⟨b3, off3 + 2, none⟩ = some (.slice S4 16 c4) := by simp only [Nat.zero_mul, Nat.add_zero] at k_2; exact k_2
  have HR2 := Lib.hid hr2
  have HB2 := Lib.hid (HB1.out.trans (hb2.mono HB1.out.size))
  simp only [List.length_cons, List.length_nil, Nat.zero_add]
  clear hw hW2 hz2 hb2 hwl hu2 hr2 hop3 hc3 k_2 hcap3 HRS HB1
  go_wp2_with fail
  obtain ⟨W3, hW3⟩ : ∃ W3, W2.alloc (.cells #[.slice A2 m2 c2] 24) = W3 := ⟨_, rfl⟩
  obtain ⟨gr, hgr⟩ : ∃ gr, W2.heap.size = gr := ⟨_, rfl⟩
  have hb23 : Below W2.heap.size W2 W3 := by rw [← hW3]; exact gRw
  have B3 : Blk W3 gr 24 #[.slice A2 m2 c2] := by rw [← hW3, ← hgr]; exact Blk.new _ _ _
  have r_0 : W3.cell? ⟨gr, 0, none⟩ = some (.slice A2 m2 c2) := B3.cell 0
  have r_l := B3.lt
  have k3_2 : W3.cell? ⟨b3, off3 + 2, none⟩ = some (.slice S4 16 c4) := (hb23.cell (p := ⟨b3, off3 + 2, none⟩) hb3).trans k_2'
  have k3_l : b3 < W3.heap.size := Nat.lt_of_lt_of_le hb3 hb23.size
  have HR3 := Lib.hid (HR2.out.below hb23)
  have HB3 := Lib.hid (HB2.out.trans (hb23.mono HB2.out.size))
  rw [hW3, hgr]
  clear hW3 hgr hb23 B3 HR2 HB2 k_2' hb3
  have hrr := reg_rows HR3.out
  (go_at_call 32; (with_reducible refine (Kin.callK (W := W3) gRw (zig_any _ _ hrr)).mono ?_); rintro e w' ⟨z4, ⟨A4, c4', E, rfl, hz, hE⟩, hz4, rfl⟩; skip)
  obtain ⟨W4, hW4⟩ : ∃ W4, z4.1 = W4 := ⟨_, rfl⟩
  have hb4 := z4.2
  rw [hW4] at hz hb4 ⊢
  obtain ⟨A5, cap5, e5, hcap5, hop5⟩ := trks_open hz
  injection e5 with e51 e52 e53
  subst e51
  obtain ⟨b5, off5, rfl, hb5, hc5⟩ := hop5 0 _ rfl
  obtain ⟨S6, c6, _, _, q_2, _, _⟩ := hc5 0 _ rfl
  rw [hE] at q_2
  have q_2' : W4.cell? ⟨b5, off5 + 2, none⟩ = some (.slice S6 9 c6) := by simpa using q_2
  have r4_0 := (hb4.cell (p := ⟨gr, 0, none⟩) r_l).trans r_0
  have r4_l := Nat.lt_of_lt_of_le r_l hb4.size
  have k4_2 := (hb4.cell (p := ⟨b3, off3 + 2, none⟩) k3_l).trans k3_2
  have k4_l := Nat.lt_of_lt_of_le k3_l hb4.size
  have HR4 := Lib.hid (HR3.out.below hb4)
  have HB4 := Lib.hid (HB3.out.trans (hb4.mono HB3.out.size))
  clear hW4 hz4 hb4 hz hE hop5 hc5 q_2 hcap5 e52 e53 HR3 HB3 r_0 r_l k3_2 k3_l hrr
  go_wp2_with fail
  refine wp_region_held_drew (S := fun w' => Below W4.heap.size W4 w') (by kernel_rfl) ((Below.refl _ _).drew) (fun hHeld => ?_)
  try simp only [List.size_toArray, List.length_cons, List.length_nil, Nat.zero_add, Nat.reduceAdd, List.replicate, Array.replicate]
  obtain ⟨W5, hW5⟩ : ∃ W5, W4.drew = W5 := ⟨_, rfl⟩
  rw [hW5] at hHeld ⊢
  clear hW5
  refine wpAnyH_take (i := 0) (v := ?_) rfl (by kernel_rfl) (by kernel_rfl) (by kernel_rfl) (fun _ _ _ h => h) (Or.inl ⟨by kernel_rfl, ?_⟩) (by assumption) ?_
  rotate_left
  · (intro w' hSw; have s0 := (hSw.cell (p := ⟨b3, off3 + 2, none⟩) k4_l).trans k4_2; have s1 := (hSw.cell (p := ⟨gr, 0, none⟩) r4_l).trans r4_0; have s2 := (hSw.cell (p := ⟨b5, off5 + 2, none⟩) hb5).trans q_2'; go_simp; try with_reducible rfl)
  try simp only [List.getElem_toArray, List.getElem_cons_succ, List.getElem_cons_zero, Act.put, List.setIfInBounds_toArray, List.set_cons_zero, List.set_cons_succ]
  refine wpAnyH_take (i := 1) (v := ?_) rfl (by kernel_rfl) (by kernel_rfl) (by kernel_rfl) (fun _ _ _ h => h) (Or.inl ⟨by kernel_rfl, ?_⟩) (by assumption) ?_
  rotate_left
  · (intro w' hSw; have s0 := (hSw.cell (p := ⟨b3, off3 + 2, none⟩) k4_l).trans k4_2; have s1 := (hSw.cell (p := ⟨gr, 0, none⟩) r4_l).trans r4_0; have s2 := (hSw.cell (p := ⟨b5, off5 + 2, none⟩) hb5).trans q_2'; go_simp; try with_reducible rfl)
  try simp only [List.getElem_toArray, List.getElem_cons_succ, List.getElem_cons_zero, Act.put, List.setIfInBounds_toArray, List.set_cons_zero, List.set_cons_succ]
  refine wpAnyH_take (i := 2) (v := ?_) rfl (by kernel_rfl) (by kernel_rfl) (by kernel_rfl) (fun _ _ _ h => h) (Or.inl ⟨by kernel_rfl, ?_⟩) (by assumption) ?_
  rotate_left
  · (intro w' hSw; have s0 := (hSw.cell (p := ⟨b3, off3 + 2, none⟩) k4_l).trans k4_2; have s1 := (hSw.cell (p := ⟨gr, 0, none⟩) r4_l).trans r4_0; have s2 := (hSw.cell (p := ⟨b5, off5 + 2, none⟩) hb5).trans q_2'; go_simp; try with_reducible rfl)
  try simp only [List.getElem_toArray, List.getElem_cons_succ, List.getElem_cons_zero, Act.put, List.setIfInBounds_toArray, List.set_cons_zero, List.set_cons_succ]
  refine wpAnyH_take (i := 3) (v := ?_) rfl (by kernel_rfl) (by kernel_rfl) (by kernel_rfl) (fun _ _ _ h => h) (Or.inl ⟨by kernel_rfl, ?_⟩) (by assumption) ?_
  rotate_left
  · (intro w' hSw; have s0 := (hSw.cell (p := ⟨b3, off3 + 2, none⟩) k4_l).trans k4_2; have s1 := (hSw.cell (p := ⟨gr, 0, none⟩) r4_l).trans r4_0; have s2 := (hSw.cell (p := ⟨b5, off5 + 2, none⟩) hb5).trans q_2'; go_simp; try with_reducible rfl)
  try simp only [List.getElem_toArray, List.getElem_cons_succ, List.getElem_cons_zero, Act.put, List.setIfInBounds_toArray, List.set_cons_zero, List.set_cons_succ]
  refine wpAnyH_take (i := 4) (v := ?_) rfl (by kernel_rfl) (by kernel_rfl) (by kernel_rfl) (fun _ _ _ h => h) (Or.inl ⟨by kernel_rfl, ?_⟩) (by assumption) ?_
  rotate_left
  · (intro w' hSw; have s0 := (hSw.cell (p := ⟨b3, off3 + 2, none⟩) k4_l).trans k4_2; have s1 := (hSw.cell (p := ⟨gr, 0, none⟩) r4_l).trans r4_0; have s2 := (hSw.cell (p := ⟨b5, off5 + 2, none⟩) hb5).trans q_2'; go_simp; try with_reducible rfl)
  try simp only [List.getElem_toArray, List.getElem_cons_succ, List.getElem_cons_zero, Act.put, List.setIfInBounds_toArray, List.set_cons_zero, List.set_cons_succ]
  refine wpAnyH_take (i := 5) (v := ?_) rfl (by kernel_rfl) (by kernel_rfl) (by kernel_rfl) (fun _ _ _ h => h) (Or.inl ⟨by kernel_rfl, ?_⟩) (by assumption) ?_
  rotate_left
  · (intro w' hSw; have s0 := (hSw.cell (p := ⟨b3, off3 + 2, none⟩) k4_l).trans k4_2; have s1 := (hSw.cell (p := ⟨gr, 0, none⟩) r4_l).trans r4_0; have s2 := (hSw.cell (p := ⟨b5, off5 + 2, none⟩) hb5).trans q_2'; go_simp; try with_reducible rfl)
  try simp only [List.getElem_toArray, List.getElem_cons_succ, List.getElem_cons_zero, Act.put, List.setIfInBounds_toArray, List.set_cons_zero, List.set_cons_succ]
  refine wpAnyH_take (i := 6) (v := ?_) rfl (by kernel_rfl) (by kernel_rfl) (by kernel_rfl) (fun _ _ _ h => h) (Or.inl ⟨by kernel_rfl, ?_⟩) (by assumption) ?_
  rotate_left
  · (intro w' hSw; have s0 := (hSw.cell (p := ⟨b3, off3 + 2, none⟩) k4_l).trans k4_2; have s1 := (hSw.cell (p := ⟨gr, 0, none⟩) r4_l).trans r4_0; have s2 := (hSw.cell (p := ⟨b5, off5 + 2, none⟩) hb5).trans q_2'; go_simp; try with_reducible rfl)
  try simp only [List.getElem_toArray, List.getElem_cons_succ, List.getElem_cons_zero, Act.put, List.setIfInBounds_toArray, List.set_cons_zero, List.set_cons_succ]
  refine wpAnyH_take (i := 7) (v := ?_) rfl (by kernel_rfl) (by kernel_rfl) (by kernel_rfl) (fun _ _ _ h => h) (Or.inl ⟨by kernel_rfl, ?_⟩) (by assumption) ?_
  rotate_left
  · (intro w' hSw; have s0 := (hSw.cell (p := ⟨b3, off3 + 2, none⟩) k4_l).trans k4_2; have s1 := (hSw.cell (p := ⟨gr, 0, none⟩) r4_l).trans r4_0; have s2 := (hSw.cell (p := ⟨b5, off5 + 2, none⟩) hb5).trans q_2'; go_simp; try with_reducible rfl)
  try simp only [List.getElem_toArray, List.getElem_cons_succ, List.getElem_cons_zero, Act.put, List.setIfInBounds_toArray, List.set_cons_zero, List.set_cons_succ]
  refine wpAnyH_take (i := 8) (v := ?_) rfl (by kernel_rfl) (by kernel_rfl) (by kernel_rfl) (fun _ _ _ h => h) (Or.inl ⟨by kernel_rfl, ?_⟩) (by assumption) ?_
  rotate_left
  · (intro w' hSw; have s0 := (hSw.cell (p := ⟨b3, off3 + 2, none⟩) k4_l).trans k4_2; have s1 := (hSw.cell (p := ⟨gr, 0, none⟩) r4_l).trans r4_0; have s2 := (hSw.cell (p := ⟨b5, off5 + 2, none⟩) hb5).trans q_2'; go_simp; try with_reducible rfl)
  try simp only [List.getElem_toArray, List.getElem_cons_succ, List.getElem_cons_zero, Act.put, List.setIfInBounds_toArray, List.set_cons_zero, List.set_cons_succ]
  refine wpAnyH_take (i := 9) (v := ?_) rfl (by kernel_rfl) (by kernel_rfl) (by kernel_rfl) (fun _ _ _ h => h) (Or.inl ⟨by kernel_rfl, ?_⟩) (by assumption) ?_
  rotate_left
  · (intro w' hSw; have s0 := (hSw.cell (p := ⟨b3, off3 + 2, none⟩) k4_l).trans k4_2; have s1 := (hSw.cell (p := ⟨gr, 0, none⟩) r4_l).trans r4_0; have s2 := (hSw.cell (p := ⟨b5, off5 + 2, none⟩) hb5).trans q_2'; go_simp; try with_reducible rfl)
  try simp only [List.getElem_toArray, List.getElem_cons_succ, List.getElem_cons_zero, Act.put, List.setIfInBounds_toArray, List.set_cons_zero, List.set_cons_succ]
  refine wpAnyH_take (i := 10) (v := ?_) rfl (by kernel_rfl) (by kernel_rfl) (by kernel_rfl) (fun _ _ _ h => h) (Or.inl ⟨by kernel_rfl, ?_⟩) (by assumption) ?_
  rotate_left
  · (intro w' hSw; have s0 := (hSw.cell (p := ⟨b3, off3 + 2, none⟩) k4_l).trans k4_2; have s1 := (hSw.cell (p := ⟨gr, 0, none⟩) r4_l).trans r4_0; have s2 := (hSw.cell (p := ⟨b5, off5 + 2, none⟩) hb5).trans q_2'; go_simp; try with_reducible rfl)
  try simp only [List.getElem_toArray, List.getElem_cons_succ, List.getElem_cons_zero, Act.put, List.setIfInBounds_toArray, List.set_cons_zero, List.set_cons_succ]
  refine wpAnyH_take (i := 11) (v := ?_) rfl (by kernel_rfl) (by kernel_rfl) (by kernel_rfl) (fun _ _ _ h => h) (Or.inl ⟨by kernel_rfl, ?_⟩) (by assumption) ?_
  rotate_left
  · (intro w' hSw; have s0 := (hSw.cell (p := ⟨b3, off3 + 2, none⟩) k4_l).trans k4_2; have s1 := (hSw.cell (p := ⟨gr, 0, none⟩) r4_l).trans r4_0; have s2 := (hSw.cell (p := ⟨b5, off5 + 2, none⟩) hb5).trans q_2'; go_simp; try with_reducible rfl)
  try simp only [List.getElem_toArray, List.getElem_cons_succ, List.getElem_cons_zero, Act.put, List.setIfInBounds_toArray, List.set_cons_zero, List.set_cons_succ]
  refine wpAnyH_take (i := 12) (v := ?_) rfl (by kernel_rfl) (by kernel_rfl) (by kernel_rfl) (fun _ _ _ h => h) (Or.inl ⟨by kernel_rfl, ?_⟩) (by assumption) ?_
  rotate_left
  · (intro w' hSw; have s0 := (hSw.cell (p := ⟨b3, off3 + 2, none⟩) k4_l).trans k4_2; have s1 := (hSw.cell (p := ⟨gr, 0, none⟩) r4_l).trans r4_0; have s2 := (hSw.cell (p := ⟨b5, off5 + 2, none⟩) hb5).trans q_2'; go_simp; try with_reducible rfl)
  try simp only [List.getElem_toArray, List.getElem_cons_succ, List.getElem_cons_zero, Act.put, List.setIfInBounds_toArray, List.set_cons_zero, List.set_cons_succ]
  refine wpAnyH_ready (rs := [13]) (by kernel_rfl) (by simp) (AllReadyH.cons rfl (fun K hK => ?_) AllReadyH.nil)
  go_simp
  (go_at_call 21; (with_reducible refine (Kin.callK (W := W5) gRw (HS1.out _)).mono ?_); rintro e w' ⟨z6, ⟨S7, rfl, hS7⟩, hz6, rfl⟩; skip)
  simp only []
  have h6 : Below W4.heap.size W4 z6.1 := hHeld.trans (z6.2.mono hHeld.size)
  obtain ⟨W6, hW6⟩ : ∃ W6, z6.1 = W6 := ⟨_, rfl⟩
  rw [hW6] at hS7 h6 ⊢
  have HS7 := Lib.hid hS7
  have HH6 := Lib.hid h6
  refine hK.out _ _ (h6) (fun hHeld2 => ?_)
  clear hK hHeld
  have hHeld := hHeld2
  clear hHeld2 K
  try simp only [List.getElem_toArray, List.getElem_cons_succ, List.getElem_cons_zero, Act.put, List.setIfInBounds_toArray, List.set_cons_zero, List.set_cons_succ]
  clear h6 hS7 hW6 hz6
  refine wpAnyH_ready (rs := [14]) (by kernel_rfl) (by simp) (AllReadyH.cons rfl (fun K hK => ?_) AllReadyH.nil)
  go_simp
  (go_at_call 11; (with_reducible refine (Kin.callK (W := W6) gRw (same18_yes _ _ sq1 _ (HR4.out.below HH6.out) HS7.out (rbd_v (rvalid_iff.2 sq1_v)))).mono ?_); rintro e w' ⟨z8, rfl, hz8, rfl⟩; skip)
  simp only []
  have h8 : Below W4.heap.size W4 z8.1 := HH6.out.trans (z8.2.mono HH6.out.size)
  have HH8 := Lib.hid h8
  refine hK.out _ _ (h8) (fun hHeld2 => ?_)
  clear hK hHeld
  have hHeld := hHeld2
  clear hHeld2 K
  try simp only [List.getElem_toArray, List.getElem_cons_succ, List.getElem_cons_zero, Act.put, List.setIfInBounds_toArray, List.set_cons_zero, List.set_cons_succ]
  refine wpAnyH_take (i := 15) (v := ?_) rfl (by kernel_rfl) (by kernel_rfl) (by kernel_rfl) (fun _ _ _ h => h) (Or.inl ⟨by kernel_rfl, ?_⟩) (by assumption) ?_
  rotate_left
  · (intro w' hSw; have s0 := (hSw.cell (p := ⟨b3, off3 + 2, none⟩) k4_l).trans k4_2; have s1 := (hSw.cell (p := ⟨gr, 0, none⟩) r4_l).trans r4_0; have s2 := (hSw.cell (p := ⟨b5, off5 + 2, none⟩) hb5).trans q_2'; go_simp; try with_reducible rfl)
  try simp only [List.getElem_toArray, List.getElem_cons_succ, List.getElem_cons_zero, Act.put, List.setIfInBounds_toArray, List.set_cons_zero, List.set_cons_succ]
  refine wpAnyH_take (i := 16) (v := ?_) rfl (by kernel_rfl) (by kernel_rfl) (by kernel_rfl) (fun _ _ _ h => h) (Or.inl ⟨by kernel_rfl, ?_⟩) (by assumption) ?_
  rotate_left
  · (intro w' hSw; have s0 := (hSw.cell (p := ⟨b3, off3 + 2, none⟩) k4_l).trans k4_2; have s1 := (hSw.cell (p := ⟨gr, 0, none⟩) r4_l).trans r4_0; have s2 := (hSw.cell (p := ⟨b5, off5 + 2, none⟩) hb5).trans q_2'; go_simp; try with_reducible rfl)
  try simp only [List.getElem_toArray, List.getElem_cons_succ, List.getElem_cons_zero, Act.put, List.setIfInBounds_toArray, List.set_cons_zero, List.set_cons_succ]
  refine wpAnyH_take (i := 17) (v := ?_) rfl (by kernel_rfl) (by kernel_rfl) (by kernel_rfl) (fun _ _ _ h => h) (Or.inl ⟨by kernel_rfl, ?_⟩) (by assumption) ?_
  rotate_left
  · (intro w' hSw; have s0 := (hSw.cell (p := ⟨b3, off3 + 2, none⟩) k4_l).trans k4_2; have s1 := (hSw.cell (p := ⟨gr, 0, none⟩) r4_l).trans r4_0; have s2 := (hSw.cell (p := ⟨b5, off5 + 2, none⟩) hb5).trans q_2'; go_simp; try with_reducible rfl)
  try simp only [List.getElem_toArray, List.getElem_cons_succ, List.getElem_cons_zero, Act.put, List.setIfInBounds_toArray, List.set_cons_zero, List.set_cons_succ]
  refine wpAnyH_take (i := 18) (v := ?_) rfl (by kernel_rfl) (by kernel_rfl) (by kernel_rfl) (fun _ _ _ h => h) (Or.inl ⟨by kernel_rfl, ?_⟩) (by assumption) ?_
  rotate_left
  · (intro w' hSw; have s0 := (hSw.cell (p := ⟨b3, off3 + 2, none⟩) k4_l).trans k4_2; have s1 := (hSw.cell (p := ⟨gr, 0, none⟩) r4_l).trans r4_0; have s2 := (hSw.cell (p := ⟨b5, off5 + 2, none⟩) hb5).trans q_2'; go_simp; try with_reducible rfl)
  try simp only [List.getElem_toArray, List.getElem_cons_succ, List.getElem_cons_zero, Act.put, List.setIfInBounds_toArray, List.set_cons_zero, List.set_cons_succ]
  refine wpAnyH_take (i := 19) (v := ?_) rfl (by kernel_rfl) (by kernel_rfl) (by kernel_rfl) (fun _ _ _ h => h) (Or.inl ⟨by kernel_rfl, ?_⟩) (by assumption) ?_
  rotate_left
  · (intro w' hSw; have s0 := (hSw.cell (p := ⟨b3, off3 + 2, none⟩) k4_l).trans k4_2; have s1 := (hSw.cell (p := ⟨gr, 0, none⟩) r4_l).trans r4_0; have s2 := (hSw.cell (p := ⟨b5, off5 + 2, none⟩) hb5).trans q_2'; go_simp; try with_reducible rfl)
  try simp only [List.getElem_toArray, List.getElem_cons_succ, List.getElem_cons_zero, Act.put, List.setIfInBounds_toArray, List.set_cons_zero, List.set_cons_succ]
  refine wpAnyH_take (i := 20) (v := ?_) rfl (by kernel_rfl) (by kernel_rfl) (by kernel_rfl) (fun _ _ _ h => h) (Or.inl ⟨by kernel_rfl, ?_⟩) (by assumption) ?_
  rotate_left
  · (intro w' hSw; have s0 := (hSw.cell (p := ⟨b3, off3 + 2, none⟩) k4_l).trans k4_2; have s1 := (hSw.cell (p := ⟨gr, 0, none⟩) r4_l).trans r4_0; have s2 := (hSw.cell (p := ⟨b5, off5 + 2, none⟩) hb5).trans q_2'; go_simp; try with_reducible rfl)
  try simp only [List.getElem_toArray, List.getElem_cons_succ, List.getElem_cons_zero, Act.put, List.setIfInBounds_toArray, List.set_cons_zero, List.set_cons_succ]
  refine wpAnyH_take (i := 21) (v := ?_) rfl (by kernel_rfl) (by kernel_rfl) (by kernel_rfl) (fun _ _ _ h => h) (Or.inl ⟨by kernel_rfl, ?_⟩) (by assumption) ?_
  rotate_left
  · (intro w' hSw; have s0 := (hSw.cell (p := ⟨b3, off3 + 2, none⟩) k4_l).trans k4_2; have s1 := (hSw.cell (p := ⟨gr, 0, none⟩) r4_l).trans r4_0; have s2 := (hSw.cell (p := ⟨b5, off5 + 2, none⟩) hb5).trans q_2'; go_simp; try with_reducible rfl)
  try simp only [List.getElem_toArray, List.getElem_cons_succ, List.getElem_cons_zero, Act.put, List.setIfInBounds_toArray, List.set_cons_zero, List.set_cons_succ]
  refine wpAnyH_take (i := 22) (v := ?_) rfl (by kernel_rfl) (by kernel_rfl) (by kernel_rfl) (fun _ _ _ h => h) (Or.inl ⟨by kernel_rfl, ?_⟩) (by assumption) ?_
  rotate_left
  · (intro w' hSw; have s0 := (hSw.cell (p := ⟨b3, off3 + 2, none⟩) k4_l).trans k4_2; have s1 := (hSw.cell (p := ⟨gr, 0, none⟩) r4_l).trans r4_0; have s2 := (hSw.cell (p := ⟨b5, off5 + 2, none⟩) hb5).trans q_2'; go_simp; try with_reducible rfl)
  try simp only [List.getElem_toArray, List.getElem_cons_succ, List.getElem_cons_zero, Act.put, List.setIfInBounds_toArray, List.set_cons_zero, List.set_cons_succ]
  refine wpAnyH_take (i := 23) (v := ?_) rfl (by kernel_rfl) (by kernel_rfl) (by kernel_rfl) (fun _ _ _ h => h) (Or.inl ⟨by kernel_rfl, ?_⟩) (by assumption) ?_
  rotate_left
  · (intro w' hSw; have s0 := (hSw.cell (p := ⟨b3, off3 + 2, none⟩) k4_l).trans k4_2; have s1 := (hSw.cell (p := ⟨gr, 0, none⟩) r4_l).trans r4_0; have s2 := (hSw.cell (p := ⟨b5, off5 + 2, none⟩) hb5).trans q_2'; go_simp; try with_reducible rfl)
  try simp only [List.getElem_toArray, List.getElem_cons_succ, List.getElem_cons_zero, Act.put, List.setIfInBounds_toArray, List.set_cons_zero, List.set_cons_succ]
  refine wpAnyH_take (i := 24) (v := ?_) rfl (by kernel_rfl) (by kernel_rfl) (by kernel_rfl) (fun _ _ _ h => h) (Or.inl ⟨by kernel_rfl, ?_⟩) (by assumption) ?_
  rotate_left
  · (intro w' hSw; have s0 := (hSw.cell (p := ⟨b3, off3 + 2, none⟩) k4_l).trans k4_2; have s1 := (hSw.cell (p := ⟨gr, 0, none⟩) r4_l).trans r4_0; have s2 := (hSw.cell (p := ⟨b5, off5 + 2, none⟩) hb5).trans q_2'; go_simp; try with_reducible rfl)
  try simp only [List.getElem_toArray, List.getElem_cons_succ, List.getElem_cons_zero, Act.put, List.setIfInBounds_toArray, List.set_cons_zero, List.set_cons_succ]
  refine wpAnyH_take (i := 25) (v := ?_) rfl (by kernel_rfl) (by kernel_rfl) (by kernel_rfl) (fun _ _ _ h => h) (Or.inl ⟨by kernel_rfl, ?_⟩) (by assumption) ?_
  rotate_left
  · (intro w' hSw; have s0 := (hSw.cell (p := ⟨b3, off3 + 2, none⟩) k4_l).trans k4_2; have s1 := (hSw.cell (p := ⟨gr, 0, none⟩) r4_l).trans r4_0; have s2 := (hSw.cell (p := ⟨b5, off5 + 2, none⟩) hb5).trans q_2'; go_simp; try with_reducible rfl)
  try simp only [List.getElem_toArray, List.getElem_cons_succ, List.getElem_cons_zero, Act.put, List.setIfInBounds_toArray, List.set_cons_zero, List.set_cons_succ]
  refine wpAnyH_take (i := 26) (v := ?_) rfl (by kernel_rfl) (by kernel_rfl) (by kernel_rfl) (fun _ _ _ h => h) (Or.inl ⟨by kernel_rfl, ?_⟩) (by assumption) ?_
  rotate_left
  · (intro w' hSw; have s0 := (hSw.cell (p := ⟨b3, off3 + 2, none⟩) k4_l).trans k4_2; have s1 := (hSw.cell (p := ⟨gr, 0, none⟩) r4_l).trans r4_0; have s2 := (hSw.cell (p := ⟨b5, off5 + 2, none⟩) hb5).trans q_2'; go_simp; try with_reducible rfl)
  try simp only [List.getElem_toArray, List.getElem_cons_succ, List.getElem_cons_zero, Act.put, List.setIfInBounds_toArray, List.set_cons_zero, List.set_cons_succ]
  refine wpAnyH_take (i := 27) (v := ?_) rfl (by kernel_rfl) (by kernel_rfl) (by kernel_rfl) (fun _ _ _ h => h) (Or.inl ⟨by kernel_rfl, ?_⟩) (by assumption) ?_
  rotate_left
  · (intro w' hSw; have s0 := (hSw.cell (p := ⟨b3, off3 + 2, none⟩) k4_l).trans k4_2; have s1 := (hSw.cell (p := ⟨gr, 0, none⟩) r4_l).trans r4_0; have s2 := (hSw.cell (p := ⟨b5, off5 + 2, none⟩) hb5).trans q_2'; go_simp; try with_reducible rfl)
  try simp only [List.getElem_toArray, List.getElem_cons_succ, List.getElem_cons_zero, Act.put, List.setIfInBounds_toArray, List.set_cons_zero, List.set_cons_succ]
  refine wpAnyH_take (i := 28) (v := ?_) rfl (by kernel_rfl) (by kernel_rfl) (by kernel_rfl) (fun _ _ _ h => h) (Or.inl ⟨by kernel_rfl, ?_⟩) (by assumption) ?_
  rotate_left
  · (intro w' hSw; have s0 := (hSw.cell (p := ⟨b3, off3 + 2, none⟩) k4_l).trans k4_2; have s1 := (hSw.cell (p := ⟨gr, 0, none⟩) r4_l).trans r4_0; have s2 := (hSw.cell (p := ⟨b5, off5 + 2, none⟩) hb5).trans q_2'; go_simp; try with_reducible rfl)
  try simp only [List.getElem_toArray, List.getElem_cons_succ, List.getElem_cons_zero, Act.put, List.setIfInBounds_toArray, List.set_cons_zero, List.set_cons_succ]
  refine wpAnyH_take (i := 29) (v := ?_) rfl (by kernel_rfl) (by kernel_rfl) (by kernel_rfl) (fun _ _ _ h => h) (Or.inl ⟨by kernel_rfl, ?_⟩) (by assumption) ?_
  rotate_left
  · (intro w' hSw; have s0 := (hSw.cell (p := ⟨b3, off3 + 2, none⟩) k4_l).trans k4_2; have s1 := (hSw.cell (p := ⟨gr, 0, none⟩) r4_l).trans r4_0; have s2 := (hSw.cell (p := ⟨b5, off5 + 2, none⟩) hb5).trans q_2'; go_simp; try with_reducible rfl)
  try simp only [List.getElem_toArray, List.getElem_cons_succ, List.getElem_cons_zero, Act.put, List.setIfInBounds_toArray, List.set_cons_zero, List.set_cons_succ]
  refine wpAnyH_done (by kernel_rfl) ?_ _
  go_wp2_with fail
  go_ret
  exact ⟨rfl, HB4.out.trans (HH8.out.mono HB4.out.size)⟩
end Go.Proofs.YtneelidbgigehaaGreat

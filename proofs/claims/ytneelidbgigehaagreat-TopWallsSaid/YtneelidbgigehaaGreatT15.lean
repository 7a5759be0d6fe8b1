/- Lemmas: RunsSweep RunsSweepS RunsSubO. -/
import Derived.Lib.MinMax
import Derived.Test.YtneelidbgigehaaGreatT02
import Derived.Test.YtneelidbgigehaaGreatT08
import Derived.Test.YtneelidbgigehaaGreatT01
/- What the sweep over the bounds of two lists returns. -/
namespace Go.Proofs.YtneelidbgigehaaGreat
set_option linter.unusedSimpArgs false
set_option linter.unusedVariables false
open Go.RowKit Runs
attribute [local go_sem] Kin.cell Kin.frozen Kin.lt0 Kin.lt1 Kin.lt2 Kin.lt3 run_mkf
/-- the cells of a 'bounds' -/
abbrev bcs (A : Option Addr) (n cap i : Nat) : Array Value := #[.slice A n cap, .int .i64 i]
set_option maxHeartbeats 4000000 in
theorem over_any (p : Nat) (A : Option Addr) (n cap i : Nat) (w : World) (h : Blk w p 175 (bcs A n cap i)) (hn : n ≤ 1099511627776) (hi : i ≤ 2 * n) :
    Calls Tryz.prog 120 #[.pointer (some ⟨p, 0, none⟩)] w fun e w' => e = .returned (.bool (decide (i = 2 * n))) ∧ Below w.heap.size w w' := by
  have hp := h.lt
  have c0 : w.cell? ⟨p, 0, none⟩ = some (.slice A n cap) := h.cell 0
  have c1 : w.cell? ⟨p, 1, none⟩ = some (.int .i64 i) := h.cell 1
  have hw : IntKind.i64.wrap (2 * (n : Int)) = 2 * (n : Int) := IntWalk.i64_in _ (by omega)
  clear h
  go_enter Tryz.func120, Tryz.ntmps120
  go_wp2
  ((refine wp_region_kinK (W := w) (by kernel_rfl) (by kernel_rfl) gRw ?_); (repeat' (first | go_big_quiet_step (fail) | ((refine wpQuiet_guard rfl rfl rfl rfl (fun hg => ?_) (fun hg => ?_)) <;> (fail_if_success (first | guard_hyp hg : true = true | guard_hyp hg : false = false)) <;> (try simp only [decide_eq_true_eq, decide_eq_false_iff_not] at hg) <;> simp only [Act.put, List.setIfInBounds_toArray, List.set_cons_zero, List.set_cons_succ]))); all_goals ((with_reducible refine wpQuiet_nil ?_); intro zq hz))
  go_wp2
  go_ret
  exact ⟨ret_bool (by rw [Bool.eq_iff_iff]; simp; omega), gRw⟩
set_option maxHeartbeats 4000000 in
theorem inside_any (p : Nat) (A : Option Addr) (n cap i : Nat) (w : World) (h : Blk w p 175 (bcs A n cap i)) (hn : n ≤ 1099511627776) (hi : i ≤ 2 * n) :
    Calls Tryz.prog 123 #[.pointer (some ⟨p, 0, none⟩)] w fun e w' => e = .returned (.bool (odd i)) ∧ Below w.heap.size w w' := by
  have hp := h.lt
  have c0 : w.cell? ⟨p, 0, none⟩ = some (.slice A n cap) := h.cell 0
  have c1 : w.cell? ⟨p, 1, none⟩ = some (.int .i64 i) := h.cell 1
  clear h
  go_enter Tryz.func123, Tryz.ntmps123
  go_wp2
  go_ret
  exact ⟨ret_bool (by rw [Bool.eq_iff_iff]; simp [odd]; omega), gRw⟩
set_option maxHeartbeats 4000000 in
theorem next_any (p : Nat) (A : Option Addr) (cap i : Nat) (l : List Run) (w : World) (h : Blk w p 175 (bcs A l.length cap i)) (hr : Rd 2 encRun w (.slice A l.length cap) l) (hn : l.length ≤ 1099511627776) (hi : i ≤ 2 * l.length) :
    Calls Tryz.prog 121 #[.pointer (some ⟨p, 0, none⟩)] w fun e w' => e = .returned (.int .i64 (nextB l i)) ∧ Below w.heap.size w w' := by
  have hp := h.lt
  have HB := Lib.hid h
  have c0 : w.cell? ⟨p, 0, none⟩ = some (.slice A l.length cap) := h.cell 0
  have c1 : w.cell? ⟨p, 1, none⟩ = some (.int .i64 i) := h.cell 1
  clear h
  by_cases hov : i = 2 * l.length
  · have hd : decide (i = 2 * l.length) = true := by simp [hov]
    have hx : nextB l i = 1048577 := by unfold nextB; rw [if_pos hov]
    clear hov
    go_enter Tryz.func121, Tryz.ntmps121
    go_wp2_with (go_at_call 120; (with_reducible refine (Kin.callK (W := w) gRw (over_any p A l.length cap i _ (HB.out.below gRw) hn hi)).mono ?_); rintro e w' ⟨z, rfl, hz, rfl⟩)
    go_ret
    exact ⟨ret_int hx.symm, gRw⟩
  · have hd : decide (i = 2 * l.length) = false := by simp [hov]
    have hlt : i / 2 < l.length := by omega
    have hx : nextB l i = bdAt l i := by unfold nextB; rw [if_neg hov]
    clear hov
    obtain ⟨m, hm⟩ : ∃ m, m = i / 2 := ⟨_, rfl⟩
    have hm2 : ((i : Int) / 2).toNat = m := by omega
    have hm3 : (i : Int) / 2 < (l.length : Int) := by omega
    have hm4 : 0 ≤ (i : Int) / 2 := by omega
    rw [← hm] at hlt
    have HA := Lib.hid (Rd.op hr)
    have HLA := Lib.hid hr
    clear hr
    obtain ⟨r, hr⟩ : ∃ el_, (l)[m]? = some el_ := ⟨_, List.getElem?_eq_getElem (by first | exact hlt | omega)⟩
    obtain ⟨bA, offA, rfl, hbA, hcA⟩ := HA.out (m) _ hr
    have r_0 : w.cell? ⟨bA, offA + m * 2, none⟩ = some (.int .i64 r.1) := by exact hcA (m) _ hr 0 _ rfl
    have r_1 : w.cell? ⟨bA, offA + m * 2 + 1, none⟩ = some (.int .i64 r.2) := by exact hcA (m) _ hr 1 _ rfl
    have hbA2 : bA < w.heap.size + 1 := by omega
    have HAc := Lib.hid hcA
    have Hr := Lib.hid hr
    clear hr hcA
    have Hx := Lib.hid hx
    have Hm := Lib.hid hm
    clear hx hm
    cases ho : odd i
    · have hx2 := Lib.hid (show bdAt l i = r.1 by
        unfold odd at ho; unfold bdAt
        rw [if_neg (by simpa using ho), ← Hm.out, Hr.out]; rfl)
      go_enter Tryz.func121, Tryz.ntmps121
      go_wp2_with (first | (go_at_call 120; (with_reducible refine (Kin.callK (W := w) gRw (over_any p _ l.length cap i _ (HB.out.below gRw) hn hi)).mono ?_); rintro e w' ⟨z, rfl, hz, rfl⟩) | (go_at_call 123; (with_reducible refine (Kin.callK (W := w) gRw (inside_any p _ l.length cap i _ (HB.out.below gRw) hn hi)).mono ?_); rintro e w' ⟨z, rfl, hz, rfl⟩))
      ((refine wp_region_kinK (W := w) (by kernel_rfl) (by kernel_rfl) gRw ?_); (repeat' (first | go_big_quiet_step (fail) | ((refine wpQuiet_guard rfl rfl rfl rfl (fun hg => ?_) (fun hg => ?_)) <;> (fail_if_success (first | guard_hyp hg : true = true | guard_hyp hg : false = false)) <;> (try simp only [decide_eq_true_eq, decide_eq_false_iff_not] at hg) <;> simp only [Act.put, List.setIfInBounds_toArray, List.set_cons_zero, List.set_cons_succ]))); all_goals ((with_reducible refine wpQuiet_nil ?_); intro zq hz))
      go_wp2
      go_ret
      exact ⟨ret_int (by rw [Hx.out, hx2.out]), gRw⟩
    · have hx2 := Lib.hid (show bdAt l i = r.2 by
        unfold odd at ho; unfold bdAt
        rw [if_pos (by simpa using ho), ← Hm.out, Hr.out]; rfl)
      go_enter Tryz.func121, Tryz.ntmps121
      go_wp2_with (first | (go_at_call 120; (with_reducible refine (Kin.callK (W := w) gRw (over_any p _ l.length cap i _ (HB.out.below gRw) hn hi)).mono ?_); rintro e w' ⟨z, rfl, hz, rfl⟩) | (go_at_call 123; (with_reducible refine (Kin.callK (W := w) gRw (inside_any p _ l.length cap i _ (HB.out.below gRw) hn hi)).mono ?_); rintro e w' ⟨z, rfl, hz, rfl⟩))
      ((refine wp_region_kinK (W := w) (by kernel_rfl) (by kernel_rfl) gRw ?_); (repeat' (first | go_big_quiet_step (fail) | ((refine wpQuiet_guard rfl rfl rfl rfl (fun hg => ?_) (fun hg => ?_)) <;> (fail_if_success (first | guard_hyp hg : true = true | guard_hyp hg : false = false)) <;> (try simp only [decide_eq_true_eq, decide_eq_false_iff_not] at hg) <;> simp only [Act.put, List.setIfInBounds_toArray, List.set_cons_zero, List.set_cons_succ]))); all_goals ((with_reducible refine wpQuiet_nil ?_); intro zq hz))
      go_wp2
      go_ret
      exact ⟨ret_int (by rw [Hx.out, hx2.out]), gRw⟩
set_option maxHeartbeats 4000000 in
theorem pass_any (p : Nat) (A : Option Addr) (cap i : Nat) (l : List Run) (x : Int) (w : World) (h : Blk w p 175 (bcs A l.length cap i)) (hr : Rd 2 encRun w (.slice A l.length cap) l) (hn : l.length ≤ 1099511627776) (hi : i ≤ 2 * l.length) :
    Calls Tryz.prog 122 #[.pointer (some ⟨p, 0, none⟩), .int .i64 x] w fun e w' => e = .returned (.tuple #[]) ∧ Blk w' p 175 (bcs A l.length cap (passB l i x)) ∧ w.grownBy w' (some p) := by
  have hp := h.lt
  have HB := Lib.hid h
  have HR := Lib.hid hr
  have c0 : w.cell? ⟨p, 0, none⟩ = some (.slice A l.length cap) := h.cell 0
  have c1 : w.cell? ⟨p, 1, none⟩ = some (.int .i64 i) := h.cell 1
  have f1 : w.frozen? ⟨p, 1, none⟩ = false := h.frozen 1
  clear h hr
  by_cases hx : nextB l i = x
  · have hx2 : (nextB l i == x) = true := by simp [hx]
    have Hp := Lib.hid (show passB l i x = i + 1 by unfold passB; rw [if_pos hx])
    clear hx
    go_enter Tryz.func122, Tryz.ntmps122
    go_wp2_with (go_at_call 121; (with_reducible refine (Kin.callK (W := w) gRw (next_any p A cap i l _ (HB.out.below gRw) (HR.out.below gRw) hn hi)).mono ?_); rintro e w' ⟨z, rfl, hz, rfl⟩)
    go_end0
    refine ⟨rfl, ?_, grownBy_trans (below_grownBy hz) (grownBy_set _)⟩
    rw [Hp.out]
    have := (HB.out.below hz).set_ 1 (.int .i64 ((i : Int) + 1))
    simpa [bcs] using this
  · have hx2 : (nextB l i == x) = false := by simp [hx]
    have Hp := Lib.hid (show passB l i x = i by unfold passB; rw [if_neg hx])
    clear hx
    go_enter Tryz.func122, Tryz.ntmps122
    go_wp2_with (go_at_call 121; (with_reducible refine (Kin.callK (W := w) gRw (next_any p A cap i l _ (HB.out.below gRw) (HR.out.below gRw) hn hi)).mono ?_); rintro e w' ⟨z, rfl, hz, rfl⟩)
    go_end0
    exact ⟨rfl, by rw [Hp.out]; exact HB.out.below hz, below_grownBy hz⟩
/-- the place of a sweep in one list, as the memory has it -/
def mz (p : Nat) (w : World) : Nat := match w.cell? ⟨p, 1, none⟩ with | some v => (intOf v).toNat | none => 0
theorem mz_of {p n cap i : Nat} {A : Option Addr} {w : World} {t : TypeId} (h : Blk w p t (bcs A n cap i)) : mz p w = i := by
  have : w.cell? ⟨p, 1, none⟩ = some (.int .i64 i) := h.cell 1
  unfold mz; rw [this]; simp [intOf]
theorem setTo_cells (E : List Run) (q : Run) (x : Int) : ((E ++ [q]).flatMap encRun).set (E.length * 2 + 1) (.int .i64 x) = (setTo (E ++ [q]) x).flatMap encRun := by rw [setTo_last, set_last]
end Go.Proofs.YtneelidbgigehaaGreat

/- What the sweep returns for Subtract. -/
namespace Go.Proofs.YtneelidbgigehaaGreat
set_option linter.unusedSimpArgs false
set_option linter.unusedVariables false
open Go.RowKit Runs
attribute [local go_sem] Kin.cell Kin.frozen Kin.lt0 Kin.lt1 Kin.lt2 Kin.lt3 run_mkf
set_option maxHeartbeats 400000 in
theorem keepS_any (x y : Bool) (w : World) : Calls Tryz.prog 86 #[.bool x, .bool y] w fun e w' => e = .returned (.bool ((opf 0) x y)) ∧ Below w.heap.size w w' := by
  cases x
  all_goals
    go_enter Tryz.func86, Tryz.ntmps86
    go_wp2
    go_ret
    exact ⟨ret_bool (by cases y <;> rfl), gRw⟩
end Go.Proofs.YtneelidbgigehaaGreat

/- Subtract: its result lies in memory of the call's own. -/
namespace Go.Proofs.YtneelidbgigehaaGreat
set_option linter.unusedSimpArgs false
set_option linter.unusedVariables false
open Go.RowKit Runs
attribute [local go_sem] Kin.cell Kin.frozen Kin.lt0 Kin.lt1 Kin.lt2 Kin.lt3 run_mkf
set_option maxRecDepth 100000 in
set_option maxHeartbeats 8000000 in
theorem sweepSO_any (v u : Value) (a b : List Run) (w : World) (h : Rd 2 encRun w v a) (h' : Rd 2 encRun w u b) (hlen : a.length ≤ 17179869184) (hlen' : b.length ≤ 17179869184) :
    Calls Tryz.prog 85 #[v, u, .func (.func 86) #[] #[]] w fun e w' => (∃ u, e = .returned u ∧ w'.ownsRow w.heap.size 69 2 u (setop (opf 0) a b).length ((setop (opf 0) a b).flatMap encRun)) ∧ Below w.heap.size w w' := by
  obtain ⟨A, capA, rfl, hcapA, hopA⟩ := h.open_
  have HA := Lib.hid hopA
  have HLA := Lib.hid h
  clear hopA h
  obtain ⟨B, capB, rfl, hcapB, hopB⟩ := h'.open_
  have HB := Lib.hid hopB
  have HLB := Lib.hid h'
  clear hopB
  by_cases hv : (valid a && valid b) = false
  · cases hva : valid a
    · go_enter Tryz.func85, Tryz.ntmps85
      go_wp2_with (go_at_call 53; first | ((with_reducible refine (Kin.call _ (valid_any _ a _ (HLA.out.below gRw) (by omega))).mono ?_); rintro e w' ⟨z, rfl, rfl⟩) | ((with_reducible refine (Kin.call0 (valid_any _ a _ (HLA.out.below gRw) (by omega))).mono ?_); rintro e w' ⟨z, rfl, rfl⟩))
      go_ret
      exact ⟨⟨_, rfl, by simp only [setop, hv]; exact World.ownsRow_nil _ _ _ _⟩, gRw⟩
    · have hvb : valid b = false := by simpa [hva] using hv
      go_enter Tryz.func85, Tryz.ntmps85
      go_wp2_with (first | (go_at_call 53; first | ((with_reducible refine (Kin.call _ (valid_any _ a _ (HLA.out.below gRw) (by omega))).mono ?_); rintro e w' ⟨z, rfl, rfl⟩) | ((with_reducible refine (Kin.call0 (valid_any _ a _ (HLA.out.below gRw) (by omega))).mono ?_); rintro e w' ⟨z, rfl, rfl⟩)) | (go_at_call 53; first | ((with_reducible refine (Kin.call _ (valid_any _ b _ (HLB.out.below gRw) (by omega))).mono ?_); rintro e w' ⟨z, rfl, rfl⟩) | ((with_reducible refine (Kin.call0 (valid_any _ b _ (HLB.out.below gRw) (by omega))).mono ?_); rintro e w' ⟨z, rfl, rfl⟩)))
      go_ret
      exact ⟨⟨_, rfl, by simp only [setop, hv]; exact World.ownsRow_nil _ _ _ _⟩, gRw⟩
  · have hva : valid a = true := by simp at hv; exact hv.1
    have hvb : valid b = true := by simp at hv; exact hv.2
    have hse : setop (opf 0) a b = Runs.choose (opf 0) a b := by simp [setop, hva, hvb]
    rw [hse]
    clear hse hv
    go_enter Tryz.func85, Tryz.ntmps85
    go_wp2_with (first | (go_at_call 53; (with_reducible refine (Kin.callK (W := w) gRw (valid_any _ a _ (HLA.out.below gRw) (by omega))).mono ?_); rintro e w' ⟨z, rfl, hz, rfl⟩) | (go_at_call 53; (with_reducible refine (Kin.callK (W := w) gRw (valid_any _ b _ (HLB.out.below gRw) (by omega))).mono ?_); rintro e w' ⟨z2, rfl, hz2, rfl⟩; skip))
    have hp0 : Blk ((z2.1.alloc (.cells (bcs A a.length capA 0) 175)).alloc (.cells (bcs B b.length capB 0) 175)) z2.1.heap.size 175 (bcs A a.length capA 0) := (Blk.new z2.1 _ _).below gRw
    have hq0 : Blk ((z2.1.alloc (.cells (bcs A a.length capA 0) 175)).alloc (.cells (bcs B b.length capB 0) 175)) (z2.1.heap.size + 1) 175 (bcs B b.length capB 0) := by
      have := Blk.new (z2.1.alloc (.cells (bcs A a.length capA 0) 175)) 175 (bcs B b.length capB 0)
      simpa using this
    have hpw : w.heap.size ≤ z2.1.heap.size := z2.2.size
    have HP := Lib.hid hp0
    have HQ := Lib.hid hq0
    clear hp0 hq0
    go_loopw [9, 10] (fun o d wr => ∃ i j out opn x, Hid (SInv (opf 0) a b i j out opn x) ∧ d = .bool opn ∧ Hid (Blk wr z2.1.heap.size 175 (bcs A a.length capA i)) ∧ Hid (Blk wr (z2.1.heap.size + 1) 175 (bcs B b.length capB j)) ∧ Hid (wr.ownsRow w.heap.size 69 2 o out.length (out.flatMap encRun)) ∧ ∃ y : Kin w, y.1 = wr) (fun _ _ wr => 2 * a.length + 2 * b.length - (mz z2.1.heap.size wr + mz (z2.1.heap.size + 1) wr))
    case atStart => exact ⟨0, 0, [], false, _, sinv_start (opf_ff 0) hva hvb, rfl, HP.out, HQ.out, World.ownsRow_nil _ _ _ _, ⟨World.alloc _ _, gRw⟩, rfl⟩
    case round =>
      clear HP HQ
      obtain ⟨i, j, out, opn, x, HI, rfl, HP, HQ, HW, y, rfl⟩ := hrel
      have hi := HI.out.hi
      have hj := HI.out.hj
      have hlo := HI.out.len
      generalize z2.1.heap.size = p at *
      by_cases hne : i ≠ 2 * a.length ∨ j ≠ 2 * b.length
      · obtain ⟨X, hX⟩ : ∃ X, min (nextB a i) (nextB b j) = X := ⟨_, rfl⟩
        have hst := sinv_step hva hvb HI.out hne hX.symm
        obtain ⟨nw, hnw⟩ : ∃ nw, (opf 0) (odd (passB a i X)) (odd (passB b j X)) = nw := ⟨_, rfl⟩
        rw [hnw] at hst
        obtain ⟨hs1, hs2, hs3⟩ := hst
        have hi' := hs1.hi
        have hj' := hs1.hj
        have HS := Lib.hid hs1
        have Hk := Lib.hid (fun w => by have := keepS_any (odd (passB a i X)) (odd (passB b j X)) w; rw [hnw] at this; exact this)
        clear hs1 hnw
        have hov : (decide (i = 2 * a.length) = false ∧ True) ∨ (decide (i = 2 * a.length) = true ∧ decide (j = 2 * b.length) = false) := by
          by_cases h0 : i = 2 * a.length
          · right; simp [h0]; rcases hne with h1 | h1
            · exact absurd h0 h1
            · exact h1
          · left; simp [h0]
        clear hne
        cases opn
        · cases nw <;> rcases hov with ⟨h0, h0'⟩ | ⟨h0, h0'⟩
          all_goals
            go_wp2_with (first
              | (go_at_call 120; (with_reducible refine (Kin.callK (W := (Kin.wd y)) gRw (over_any p A a.length capA i _ (HP.out.below gRw) (by omega) hi)).mono ?_); rintro e w' ⟨z5, rfl, hz5, rfl⟩; skip)
              | (go_at_call 120; (with_reducible refine (Kin.callK (W := (Kin.wd y)) gRw (over_any (p + 1) B b.length capB j _ (HQ.out.below gRw) (by omega) hj)).mono ?_); rintro e w' ⟨z5, rfl, hz5, rfl⟩; skip)
              | (go_at_call 121; (with_reducible refine (Kin.callK (W := (Kin.wd y)) gRw (next_any p A capA i a _ (HP.out.below gRw) (HLA.out.below gRw) (by omega) hi)).mono ?_); rintro e w' ⟨z5, rfl, hz5, rfl⟩; skip)
              | (go_at_call 121; (with_reducible refine (Kin.callK (W := (Kin.wd y)) gRw (next_any (p + 1) B capB j b _ (HQ.out.below gRw) (HLB.out.below gRw) (by omega) hj)).mono ?_); rintro e w' ⟨z5, rfl, hz5, rfl⟩; skip))
            go_wp2_with (first
              | (go_at_call 122; (with_reducible refine (pass_any p A capA i a _ _ (HP.out.below gRw) (HLA.out.below gRw) (by omega) hi).mono ?_); rintro e w' ⟨rfl, hb6, hg6⟩; have HP6 := Lib.hid hb6; have HQ6 := Lib.hid ((HQ.out.below z5.2).grown hg6 (by simp)); have HW6 := Lib.hid (own_grownBy (own_below HW.out z5.2) hg6 (own_ne (own_below HW.out z5.2) (HP.out.below z5.2) (by decide))); (obtain ⟨y6, rfl⟩ : ∃ y : Kin w, y.1 = w' := ⟨⟨w', Below.trans gRw (grownBy_below hg6 lEw hpw)⟩, rfl⟩); clear hb6 hg6)
              | (go_at_call 122; (with_reducible refine (pass_any (p + 1) B capB j b _ _ HQ6.out (HLB.out.below gRw) (by omega) hj).mono ?_); rintro e w' ⟨rfl, hb7, hg7⟩; have HQ7 := Lib.hid hb7; have HP7 := Lib.hid (HP6.out.grown hg7 (by simp)); have HW7 := Lib.hid (own_grownBy HW6.out hg7 (own_ne HW6.out HQ6.out (by decide))); (obtain ⟨y7, rfl⟩ : ∃ y : Kin w, y.1 = w' := ⟨⟨w', Below.trans gRw (grownBy_below hg7 lEw (by omega))⟩, rfl⟩); clear hb7 hg7))
            go_wp2_with (first
              | (go_at_call 123; (with_reducible refine (Kin.callK (W := (Kin.wd y7)) gRw (inside_any p A a.length capA (passB a i X) _ (HP7.out.below gRw) (by omega) hi')).mono ?_); rintro e w' ⟨z8, rfl, hz8, rfl⟩; skip)
              | (go_at_call 123; (with_reducible refine (Kin.callK (W := (Kin.wd y7)) gRw (inside_any (p + 1) B b.length capB (passB b j X) _ (HQ7.out.below gRw) (by omega) hj')).mono ?_); rintro e w' ⟨z8, rfl, hz8, rfl⟩; skip)
              | (go_at_call 86; (with_reducible refine (Kin.callK (W := (Kin.wd y7)) gRw (Hk.out _)).mono ?_); rintro e w' ⟨z8, rfl, hz8, rfl⟩; skip)
              | (at_builtin; refine wpList_app _ rfl _ _ 42 rfl encRun_len (by decide) oneR w.heap.size 69 (.agg #[.int .i64 0, .int .i64 0]) 16 infoRun rfl Tryz.underlying42 _ _ _ _ rfl ((own_below HW7.out z8.2).alloc _) _ _ _ rfl (rd_one _ encRun_len _ (X, 0) _ rfl) ?c1 (by decide) ?c2 ?_; (case c1 => (first | (simp only [List.length_append, List.length_cons, List.length_nil]; omega) | omega | (simp; omega))); (case c2 => exact lEw); intro v' w1 hown' hg hbel hat'; have HP9 := Lib.hid (blk_app hg (e := 69) (by decide) (Below.alloc z8.2 z8.2.size _) ((own_below HW7.out z8.2).alloc _) HP7.out); have HQ9 := Lib.hid (blk_app hg (e := 69) (by decide) (Below.alloc z8.2 z8.2.size _) ((own_below HW7.out z8.2).alloc _) HQ7.out); have HW9 := Lib.hid hown'; (obtain ⟨y9, rfl⟩ : ∃ y : Kin w, y.1 = w1 := ⟨⟨w1, Below.trans gRw hbel⟩, rfl⟩); clear hown' hg hbel hat'))
            go_roundw
            case rel => first
              | exact ⟨passB a i X, passB b j X, out ++ [(X, 0)], true, X, HS.out, rfl, HP9.out, HQ9.out, HW9.out, y9, rfl⟩
              | exact ⟨passB a i X, passB b j X, out, false, X, HS.out, rfl, HP7.out.below z8.2, HQ7.out.below z8.2, own_below HW7.out z8.2, ⟨_, gRw⟩, rfl⟩
            case measure => first | (rw [mz_of HP.out, mz_of HQ.out, mz_of HP9.out, mz_of HQ9.out]; omega) | (rw [mz_of HP.out, mz_of HQ.out, mz_of (HP7.out.below z8.2), mz_of (HQ7.out.below z8.2)]; omega)
        · obtain ⟨E, s, rfl, _⟩ := HI.out.opened rfl
          rcases id HW.out.2 with ⟨_, h0⟩ | ⟨g, cap1, cur, rfl, hbase, hgb, hn, hm, hs, ht⟩
          · simp at h0
          · clear hgb hs ht hm
            obtain ⟨m, hm⟩ : ∃ m, m = E.length := ⟨_, rfl⟩
            have hl : (E ++ [(s, 0)]).length = m + 1 := by simp [hm]
            rw [hl] at HW hn hlo ⊢
            have Hm := Lib.hid hm
            clear hm hl
            cases nw <;> rcases hov with ⟨h0, h0'⟩ | ⟨h0, h0'⟩
            all_goals
                go_wp2_with (first
                  | (go_at_call 120; (with_reducible refine (Kin.callK (W := (Kin.wd y)) gRw (over_any p A a.length capA i _ (HP.out.below gRw) (by omega) hi)).mono ?_); rintro e w' ⟨z5, rfl, hz5, rfl⟩; skip)
                  | (go_at_call 120; (with_reducible refine (Kin.callK (W := (Kin.wd y)) gRw (over_any (p + 1) B b.length capB j _ (HQ.out.below gRw) (by omega) hj)).mono ?_); rintro e w' ⟨z5, rfl, hz5, rfl⟩; skip)
                  | (go_at_call 121; (with_reducible refine (Kin.callK (W := (Kin.wd y)) gRw (next_any p A capA i a _ (HP.out.below gRw) (HLA.out.below gRw) (by omega) hi)).mono ?_); rintro e w' ⟨z5, rfl, hz5, rfl⟩; skip)
                  | (go_at_call 121; (with_reducible refine (Kin.callK (W := (Kin.wd y)) gRw (next_any (p + 1) B capB j b _ (HQ.out.below gRw) (HLB.out.below gRw) (by omega) hj)).mono ?_); rintro e w' ⟨z5, rfl, hz5, rfl⟩; skip))
                go_wp2_with (first
                  | (go_at_call 122; (with_reducible refine (pass_any p A capA i a _ _ (HP.out.below gRw) (HLA.out.below gRw) (by omega) hi).mono ?_); rintro e w' ⟨rfl, hb6, hg6⟩; have HP6 := Lib.hid hb6; have HQ6 := Lib.hid ((HQ.out.below z5.2).grown hg6 (by simp)); have HW6 := Lib.hid (own_grownBy (own_below HW.out z5.2) hg6 (own_ne (own_below HW.out z5.2) (HP.out.below z5.2) (by decide))); (obtain ⟨y6, rfl⟩ : ∃ y : Kin w, y.1 = w' := ⟨⟨w', Below.trans gRw (grownBy_below hg6 lEw hpw)⟩, rfl⟩); clear hb6 hg6)
                  | (go_at_call 122; (with_reducible refine (pass_any (p + 1) B capB j b _ _ HQ6.out (HLB.out.below gRw) (by omega) hj).mono ?_); rintro e w' ⟨rfl, hb7, hg7⟩; have HQ7 := Lib.hid hb7; have HP7 := Lib.hid (HP6.out.grown hg7 (by simp)); have HW7 := Lib.hid (own_grownBy HW6.out hg7 (own_ne HW6.out HQ6.out (by decide))); (obtain ⟨y7, rfl⟩ : ∃ y : Kin w, y.1 = w' := ⟨⟨w', Below.trans gRw (grownBy_below hg7 lEw (by omega))⟩, rfl⟩); clear hb7 hg7))
                obtain ⟨uu, gc⟩ := own_some HW7.out (m * 2 + 1) (by omega)
                have gf := HW7.out.frozenAt (m * 2 + 1)
                have glt := (HW7.out.lt g rfl).2
                have gp : p ≠ g := fun e => own_ne HW7.out HP7.out (by decide) (by rw [e]; rfl)
                have gq : p + 1 ≠ g := fun e => own_ne HW7.out HQ7.out (by decide) (by rw [e]; rfl)
                go_wp2_with (first
                  | (go_at_call 123; (with_reducible refine (Kin.callK (W := (Kin.wd y7)) gRw (inside_any p A a.length capA (passB a i X) _ (HP7.out.below gRw) (by omega) hi')).mono ?_); rintro e w' ⟨z8, rfl, hz8, rfl⟩; skip)
                  | (go_at_call 123; (with_reducible refine (Kin.callK (W := (Kin.wd y7)) gRw (inside_any (p + 1) B b.length capB (passB b j X) _ (HQ7.out.below gRw) (by omega) hj')).mono ?_); rintro e w' ⟨z8, rfl, hz8, rfl⟩; skip)
                  | (go_at_call 86; (with_reducible refine (Kin.callK (W := (Kin.wd y7)) gRw (Hk.out _)).mono ?_); rintro e w' ⟨z8, rfl, hz8, rfl⟩; skip))
                go_roundw
                case rel => first
                  | exact ⟨passB a i X, passB b j X, E ++ [(s, 0)], true, X, HS.out, rfl, HP7.out.below z8.2, HQ7.out.below z8.2, by rw [List.length_append, ← Hm.out]; exact own_below HW7.out z8.2, ⟨_, gRw⟩, rfl⟩
                  | exact ⟨passB a i X, passB b j X, setTo (E ++ [(s, 0)]) X, false, X, HS.out, rfl, (HP7.out.below z8.2).far gp _, (HQ7.out.below z8.2).far gq _, by rw [← setTo_cells, setTo_last, List.length_append, ← Hm.out]; exact ((own_below HW7.out z8.2).stored (m * 2 + 1) _).1, ⟨World.setCell _ _ _, gRw⟩, rfl⟩
                case measure => first | (rw [mz_of HP.out, mz_of HQ.out, mz_of (HP7.out.below z8.2), mz_of (HQ7.out.below z8.2)]; omega) | (rw [mz_of HP.out, mz_of HQ.out, mz_of ((HP7.out.below z8.2).far gp _), mz_of ((HQ7.out.below z8.2).far gq _)]; omega)
      · have hi2 : i = 2 * a.length := Classical.byContradiction fun h => hne (.inl h)
        have hj2 : j = 2 * b.length := Classical.byContradiction fun h => hne (.inr h)
        have h0 : decide (i = 2 * a.length) = true := by simp [hi2]
        have h0' : decide (j = 2 * b.length) = true := by simp [hj2]
        rw [hi2, hj2] at HI
        have HE := Lib.hid (sinv_end (opf_ff 0) HI.out)
        clear hi2 hj2 hne
        go_wp2_with (first
              | (go_at_call 120; (with_reducible refine (Kin.callK (W := (Kin.wd y)) gRw (over_any p A a.length capA i _ (HP.out.below gRw) (by omega) hi)).mono ?_); rintro e w' ⟨z5, rfl, hz5, rfl⟩; skip)
              | (go_at_call 120; (with_reducible refine (Kin.callK (W := (Kin.wd y)) gRw (over_any (p + 1) B b.length capB j _ (HQ.out.below gRw) (by omega) hj)).mono ?_); rintro e w' ⟨z5, rfl, hz5, rfl⟩; skip))
        go_ret
        exact ⟨⟨_, rfl, by rw [← HE.out]; exact own_below HW.out z5.2⟩, gRw⟩

set_option maxHeartbeats 1000000 in
theorem subtract_own (v u : Value) (a b : List Run) (w : World) (h : Rd 2 encRun w v a) (h' : Rd 2 encRun w u b) (hlen : a.length ≤ 17179869184) (hlen' : b.length ≤ 17179869184) :
    Calls Tryz.prog 43 #[v, u] w fun e w' => (∃ u, e = .returned u ∧ w'.ownsRow w.heap.size 69 2 u (setop (opf 0) a b).length ((setop (opf 0) a b).flatMap encRun)) ∧ Below w.heap.size w w' := by
  go_enter Tryz.func43, Tryz.ntmps43
  go_wp2_with (go_at_call 85; (with_reducible refine (Kin.callK (W := w) gRw (sweepSO_any _ _ a b _ (h.below gRw) (h'.below gRw) hlen hlen')).mono ?_); rintro e w' ⟨z, ⟨r, rfl, hr⟩, hz, rfl⟩; (have HR := Lib.hid hr; clear hr))
  go_ret
  exact ⟨⟨_, rfl, HR.out⟩, gRw⟩
end Go.Proofs.YtneelidbgigehaaGreat

/- The small functions under Nest of the program, walked. -/
import Derived.Test.YteadnlodccnfcaaCtrSegs
import Derived.Test.YteadnlodccnfcaaCtrSort
import Derived.Test.YteadnlodccnfcaaPlanarMeet
import Derived.Lib.MinMax
namespace Go.Proofs.Yteadnlodccnfcaa
set_option linter.unusedSimpArgs false
set_option linter.unusedVariables false
set_option maxRecDepth 100000
open Go.RowKit Planar Go.Sort
attribute [local go_sem] Kin.cell Kin.frozen Kin.lt0 Kin.lt1 Kin.lt2 Kin.lt3
/-- the least point -/
def minP (l : List Pt) : Pt := l.tail.foldl (fun m y => if ltX y m then y else m) (l.headD (0, 0))
theorem minP_take {l : List Pt} {k : Nat} {y : Pt} (h : l[k + 1]? = some y) : minP (l.take (k + 2)) = if ltX y (minP (l.take (k + 1))) then y else minP (l.take (k + 1)) := by
  cases l with
  | nil => simp at h
  | cons x t =>
    have h2 : t[k]? = some y := by simpa using h
    unfold minP
    simp only [List.take_succ_cons, List.tail_cons, List.headD_cons]
    rw [List.take_add_one, h2, Option.toList_some, List.foldl_append]
    rfl
/-- a segment crosses the ray to the right -/
def crsS (s : Sg) (p : Pt) : Bool := if s.2.2 < s.1.2 then decide (s.2.2 ≤ p.2) && decide (p.2 < s.1.2) && decide (0 < turn s.2 s.1 p) else decide (s.1.2 ≤ p.2) && decide (p.2 < s.2.2) && decide (0 < turn s.1 s.2 p)
def onS (s : Sg) (p : Pt) : Bool := on p s.1 s.2
def odd (l : List Sg) (p : Pt) : Bool := decide ((l.countP fun s => crsS s p) % 2 = 1)
def conP (l : List Sg) (p : Pt) : Bool := !(l.any fun s => onS s p) && odd l p
theorem nvalid_any (p : Pt) (w : World) : Calls Try.prog 41 #[.agg #[.int .i64 p.1, .int .i64 p.2]] w fun e w' => e = .returned (.bool (!vld p)) ∧ Below w.heap.size w w' := by
  go_enter Try.func41, Try.ntmps41
  go_wp2_with fail
  (go_at_call 34; (with_reducible refine (Kin.callK (W := w) (by repeat (first | with_reducible (first | exact blA | exact blB | refine blC _ ?_ | refine blD ?_ ?_ _ | refine blE ?_ | refine blF _ ?_ | refine blG ?_ _ | refine blH ?_ | refine blI ?_ ?_ _) | (simp only [World.size_alloc]; omega) | (simp <;> omega))) (valid_any p _)).mono ?_); rintro e w' ⟨z1, rfl, hz1, rfl⟩; skip)
  go_wp2_with fail
  go_ret
  exact ⟨rfl, z1.2⟩
theorem nvalid_is {b : Bool} (p : Pt) (w : World) (h : vld p = b) : Calls Try.prog 41 #[.agg #[.int .i64 p.1, .int .i64 p.2]] w fun e w' => e = .returned (.bool (!b)) ∧ Below w.heap.size w w' := by subst h; exact nvalid_any p w
set_option maxHeartbeats 4000000 in
theorem index_any (v : Value) (l : List Pt) (w : World) (h : Rd 2 encPt w v l) (hl : l.length ≤ 1000000000) :
    Calls Try.prog 55 #[v, .func (.func 41) #[] #[]] w fun e w' => (∃ r : Int, e = .returned (.int .i64 r) ∧ decide (0 ≤ r) = !(l.all vld)) ∧ Below w.heap.size w w' := by
  obtain ⟨A, capA, rfl, hcapA, hopA⟩ := h.open_
  have HA := Lib.hid hopA
  have HLA := Lib.hid h
  clear hopA h
  go_enter Try.func55, Try.ntmps55
  go_wp2_with fail
  go_loopw [8] (fun i wr => ∃ k : Nat, k ≤ l.length ∧ i = .int .i64 k ∧ Hid ((l.take k).all vld = true) ∧ ∃ y : Kin w, y.1 = wr) (fun i _ => l.length - (intOf i).toNat)
  case atStart => exact ⟨0, Nat.zero_le _, rfl, Lib.hid rfl, ⟨w, Below.refl _ _⟩, rfl⟩
  case round =>
    obtain ⟨k, hk, rfl, HV, y, rfl⟩ := hrel
    by_cases hlt : k < l.length
    · obtain ⟨p, hp⟩ : ∃ el_, (l)[k]? = some el_ := ⟨_, List.getElem?_eq_getElem (by first | exact hlt | omega)⟩
      obtain ⟨bA, offA, rfl, hbA, hcA⟩ := HA.out (k) _ hp
      have p_0 : w.cell? ⟨bA, offA + k * 2, none⟩ = some (.int .i64 p.1) := by exact hcA (k) _ hp 0 _ rfl
      have p_1 : w.cell? ⟨bA, offA + k * 2 + 1, none⟩ = some (.int .i64 p.2) := by exact hcA (k) _ hp 1 _ rfl
      have hbA2 : bA < w.heap.size + 1 := by omega
      have HAc := Lib.hid hcA
      have Hp := Lib.hid hp
      clear hp hcA
      have HVT := Lib.hid (show (l.take (k + 1)).all vld = (((l.take k).all vld) && vld p) by rw [List.take_add_one, Hp.out]; simp)
      go_wp2_with fail
      rcases hv : vld p with _ | _
      · (go_at_call 41; (with_reducible refine (Kin.callK (W := w) (by repeat (first | with_reducible (first | exact blA | exact blB | refine blC _ ?_ | refine blD ?_ ?_ _ | refine blE ?_ | refine blF _ ?_ | refine blG ?_ _ | refine blH ?_ | refine blI ?_ ?_ _) | (simp only [World.size_alloc]; omega) | (simp <;> omega))) (nvalid_is p _ hv)).mono ?_); rintro e w' ⟨z1, rfl, hz1, rfl⟩; skip)
        have HALL := Lib.hid (show l.all vld = false from by
          rw [List.all_eq_false]
          exact ⟨p, List.mem_of_getElem? Hp.out, by rw [hv]; simp⟩)
        clear hv
        go_wp2_with fail
        go_ret
        refine ⟨⟨_, rfl, ?_⟩, z1.2⟩
        rw [HALL.out]
        simp
      · (go_at_call 41; (with_reducible refine (Kin.callK (W := w) (by repeat (first | with_reducible (first | exact blA | exact blB | refine blC _ ?_ | refine blD ?_ ?_ _ | refine blE ?_ | refine blF _ ?_ | refine blG ?_ _ | refine blH ?_ | refine blI ?_ ?_ _) | (simp only [World.size_alloc]; omega) | (simp <;> omega))) (nvalid_is p _ hv)).mono ?_); rintro e w' ⟨z1, rfl, hz1, rfl⟩; skip)
        have HV2 := Lib.hid (show (l.take (k + 1)).all vld = true by rw [HVT.out, HV.out, hv]; rfl)
        clear hv
        go_wp2_with fail
        go_roundw
        case rel => exact ⟨k + 1, by omega, by go_num, HV2, z1, rfl⟩
        case measure => simp [intOf]; omega
    · have HALL := Lib.hid (show l.all vld = true by have := HV.out; rwa [List.take_of_length_le (by omega)] at this)
      go_wp2_with fail
      go_ret
      refine ⟨⟨_, rfl, ?_⟩, y.2⟩
      rw [HALL.out]
      rfl
theorem cfunc_any (v : Value) (l : List Pt) (w : World) (h : Rd 2 encPt w v l) (hl : l.length ≤ 1000000000) :
    Calls Try.prog 40 #[v, .func (.func 41) #[] #[]] w fun e w' => e = .returned (.bool (!(l.all vld))) ∧ Below w.heap.size w w' := by
  go_enter Try.func40, Try.ntmps40
  go_wp2_with fail
  (go_at_call 55; (with_reducible refine (Kin.callK (W := w) (by repeat (first | with_reducible (first | exact blA | exact blB | refine blC _ ?_ | refine blD ?_ ?_ _ | refine blE ?_ | refine blF _ ?_ | refine blG ?_ _ | refine blH ?_ | refine blI ?_ ?_ _) | (simp only [World.size_alloc]; omega) | (simp <;> omega))) (index_any _ l _ h hl)).mono ?_); rintro e w' ⟨z1, ⟨r, rfl, hr⟩, hz1, rfl⟩; skip)
  go_wp2_with fail
  go_ret
  exact ⟨rfl, z1.2⟩
theorem cfunc_is {b : Bool} (v : Value) (l : List Pt) (w : World) (h : Rd 2 encPt w v l) (hl : l.length ≤ 1000000000) (hb : (!(l.all vld)) = b) :
    Calls Try.prog 40 #[v, .func (.func 41) #[] #[]] w fun e w' => e = .returned (.bool b) ∧ Below w.heap.size w w' := by subst hb; exact cfunc_any v l w h hl
theorem cmp_any (x y : Pt) (w : World) : Calls Try.prog 36 #[.agg #[.int .i64 x.1, .int .i64 x.2], .agg #[.int .i64 y.1, .int .i64 y.2]] w fun e w' => e = .returned (.int .i64 (cfG x y)) ∧ Below w.heap.size w w' := by
  refine (points_cmp x y w).mono ?_
  rintro e w' ⟨he, q, os', rfl⟩
  refine ⟨he, rfl, rfl, rfl, ?_, fun k hk => ?_⟩
  · show w.heap.size ≤ (w.heap ++ os').size
    rw [Array.size_append]; omega
  · show (w.heap ++ os')[k]? = w.heap[k]?
    rw [Array.getElem?_append_left hk]
theorem cmp_lt {x y : Pt} (w : World) (h : ltX x y) : Calls Try.prog 36 #[.agg #[.int .i64 x.1, .int .i64 x.2], .agg #[.int .i64 y.1, .int .i64 y.2]] w fun e w' => e = .returned (.int .i64 (-1)) ∧ Below w.heap.size w w' := by
  have := cmp_any x y w
  unfold cfG at this
  rw [if_pos h] at this
  exact this
theorem cmp_ge {x y : Pt} {r : Int} (w : World) (h : ¬ ltX x y) (hr : (if x = y then 0 else 1) = r) : Calls Try.prog 36 #[.agg #[.int .i64 x.1, .int .i64 x.2], .agg #[.int .i64 y.1, .int .i64 y.2]] w fun e w' => e = .returned (.int .i64 r) ∧ Below w.heap.size w w' := by
  have := cmp_any x y w
  unfold cfG at this
  rw [if_neg h, hr] at this
  exact this
set_option maxHeartbeats 4000000 in
theorem minf_any (v : Value) (l : List Pt) (w : World) (h : Rd 2 encPt w v l) (h0 : l ≠ []) (hl : l.length ≤ 1000000000) :
    Calls Try.prog 42 #[v, .func (.func 36) #[] #[]] w fun e w' => e = .returned (.agg #[.int .i64 (minP l).1, .int .i64 (minP l).2]) ∧ Below w.heap.size w w' := by
  obtain ⟨A, capA, rfl, hcapA, hopA⟩ := h.open_
  have HA := Lib.hid hopA
  have HLA := Lib.hid h
  clear hopA h
  have hpos : 0 < l.length := List.length_pos_iff.2 h0
  have hln : ¬ (l.length : Int) < 1 := by omega
  obtain ⟨p, hp⟩ : ∃ el_, (l)[0]? = some el_ := ⟨_, List.getElem?_eq_getElem (by first | exact hpos | omega)⟩
  obtain ⟨bA, offA, rfl, hbA, hcA⟩ := HA.out (0) _ hp
  have p_0 : w.cell? ⟨bA, offA + 0 * 2, none⟩ = some (.int .i64 p.1) := by exact hcA (0) _ hp 0 _ rfl
  have p_1 : w.cell? ⟨bA, offA + 0 * 2 + 1, none⟩ = some (.int .i64 p.2) := by exact hcA (0) _ hp 1 _ rfl
  have hbA2 : bA < w.heap.size + 1 := by omega
  have HAc := Lib.hid hcA
  have Hp := Lib.hid hp
  clear hp hcA
  have HP0 := Lib.hid (show minP (l.take 1) = p by
    cases l with
    | nil => exact absurd rfl h0
    | cons x t => have := Hp.out; simp at this; simp [minP, this])
  have q_0 : w.cell? ⟨bA, offA, none⟩ = some (.int .i64 p.1) := by simpa using p_0
  have q_1 : w.cell? ⟨bA, offA + 1, none⟩ = some (.int .i64 p.2) := by simpa using p_1
  clear p_0 p_1
  go_enter Try.func42, Try.ntmps42
  go_wp2_with fail
  obtain ⟨y0, hy0⟩ : ∃ y0 : Kin w, y0.1 = (w.alloc (.cells #[.int .i64 0, .int .i64 0] 36)).alloc (.cells #[.int .i64 p.1, .int .i64 p.2] 36) := ⟨⟨(w.alloc _).alloc _, (by repeat (first | with_reducible (first | exact blA | exact blB | refine blC _ ?_ | refine blD ?_ ?_ _ | refine blE ?_ | refine blF _ ?_ | refine blG ?_ _ | refine blH ?_ | refine blI ?_ ?_ _) | (simp only [World.size_alloc]; omega) | (simp <;> omega)))⟩, rfl⟩
  have B4 := (Blk.new w 36 #[.int .i64 0, .int .i64 0]).al_ (.cells #[.int .i64 p.1, .int .i64 p.2] 36)
  have B5 := Blk.new (w.alloc (.cells #[.int .i64 0, .int .i64 0] 36)) 36 #[.int .i64 p.1, .int .i64 p.2]
  rw [World.size_alloc] at B5
  rw [← hy0] at B4 B5 ⊢
  obtain ⟨g5, hg5⟩ : ∃ g5, w.heap.size + 1 = g5 := ⟨_, rfl⟩
  have h45 : w.heap.size < g5 := by omega
  have hw4 : w.heap.size ≤ w.heap.size := Nat.le_refl _
  rw [hg5] at B5 ⊢
  have HB4 := Lib.hid B4
  have HB5 := Lib.hid (show Blk y0.1 g5 36 #[.int .i64 (minP (l.take 1)).1, .int .i64 (minP (l.take 1)).2] by rw [HP0.out]; exact B5)
  clear B4 B5 hy0 hg5
  go_wp2_with fail
  go_loopw [6] (fun i wr => ∃ k : Nat, k + 1 ≤ l.length ∧ i = .int .i64 ((k : Int) + 1) ∧ Hid (Blk wr w.heap.size 36 #[.int .i64 0, .int .i64 0]) ∧ Hid (Blk wr g5 36 #[.int .i64 (minP (l.take (k + 1))).1, .int .i64 (minP (l.take (k + 1))).2]) ∧ ∃ y : Kin w, y.1 = wr) (fun i _ => l.length - (intOf i).toNat)
  case atStart => exact ⟨0, by omega, rfl, HB4, HB5, y0, rfl⟩
  case round =>
    clear HB4 HB5
    obtain ⟨k, hk, rfl, HB4, HB5, y, rfl⟩ := hrel
    obtain ⟨mm, hmm⟩ : ∃ mm, minP (l.take (k + 1)) = mm := ⟨_, rfl⟩
    have HMM := Lib.hid hmm
    rw [hmm] at HB5
    clear hmm
    have m_0 : y.1.cell? ⟨g5, 0, none⟩ = some (.int .i64 mm.1) := HB5.out.cell 0
    have m_1 : y.1.cell? ⟨g5, 1, none⟩ = some (.int .i64 mm.2) := HB5.out.cell 1
    have f_0 : y.1.frozen? ⟨g5, 0, none⟩ = false := HB5.out.frozen 0
    have f_1 : y.1.frozen? ⟨g5, 1, none⟩ = false := HB5.out.frozen 1
    have l_5 := HB5.out.lt
    have n_0 : y.1.cell? ⟨w.heap.size, 0, none⟩ = some (.int .i64 0) := HB4.out.cell 0
    have n_1 : y.1.cell? ⟨w.heap.size, 1, none⟩ = some (.int .i64 0) := HB4.out.cell 1
    have e_0 : y.1.frozen? ⟨w.heap.size, 0, none⟩ = false := HB4.out.frozen 0
    have e_1 : y.1.frozen? ⟨w.heap.size, 1, none⟩ = false := HB4.out.frozen 1
    have l_4 := HB4.out.lt
    by_cases hlt : k + 1 < l.length
    · obtain ⟨x, hx⟩ : ∃ el_, (l)[k + 1]? = some el_ := ⟨_, List.getElem?_eq_getElem (by first | exact hlt | omega)⟩
      have x_0 : w.cell? ⟨bA, offA + (k + 1) * 2, none⟩ = some (.int .i64 x.1) := by exact HAc.out (k + 1) _ hx 0 _ rfl
      have x_1 : w.cell? ⟨bA, offA + (k + 1) * 2 + 1, none⟩ = some (.int .i64 x.2) := by exact HAc.out (k + 1) _ hx 1 _ rfl
      have Hx := Lib.hid hx
      clear hx
      have HMT := Lib.hid (minP_take Hx.out)
      by_cases hc : ltX x mm
      · have HC := Lib.hid hc
        have HN := Lib.hid (show minP (l.take (k + 1 + 1)) = x by rw [HMT.out, HMM.out, if_pos hc])
        clear hc
        go_wp2_with fail
        ((refine wp_region_kinK (W := w) (by kernel_rfl) (by kernel_rfl) (by repeat (first | with_reducible (first | exact blA | exact blB | refine blC _ ?_ | refine blD ?_ ?_ _ | refine blE ?_ | refine blF _ ?_ | refine blG ?_ _ | refine blH ?_ | refine blI ?_ ?_ _) | (simp only [World.size_alloc]; omega) | (simp <;> omega))) ?_); (repeat' (first | go_big_quiet_step ((go_at_call 36; exact Kin.quiet _ (cmp_lt _ HC.out))) | ((refine wpQuiet_guard rfl rfl rfl rfl (fun hg => ?_) (fun hg => ?_)) <;> (fail_if_success (first | guard_hyp hg : true = true | guard_hyp hg : false = false)) <;> (try simp only [decide_eq_true_eq, decide_eq_false_iff_not] at hg) <;> simp only [Act.put, List.setIfInBounds_toArray, List.set_cons_zero, List.set_cons_succ]))); all_goals ((with_reducible refine wpQuiet_nil ?_); intro zq hz))
        have HB4z := Lib.hid (HB4.out.below hz)
        have HB5z := Lib.hid (HB5.out.below hz)
        have z_0 : zq.1.cell? ⟨g5, 0, none⟩ = some (.int .i64 mm.1) := HB5z.out.cell 0
        have z_1 : zq.1.cell? ⟨g5, 1, none⟩ = some (.int .i64 mm.2) := HB5z.out.cell 1
        have zf_0 : zq.1.frozen? ⟨g5, 0, none⟩ = false := HB5z.out.frozen 0
        have zf_1 : zq.1.frozen? ⟨g5, 1, none⟩ = false := HB5z.out.frozen 1
        have zl := HB5z.out.lt
        clear hz
        go_wp2_with fail
        refine ⟨⟨k + 1, by omega, by go_num, Lib.hid ((HB4z.out.far (by show w.heap.size ≠ g5; omega) _).far (by show w.heap.size ≠ g5; omega) _), Lib.hid (by rw [HN.out]; exact (HB5z.out.set_ 0 _).set_ 1 _), ⟨_, (zq.2.setCell (Nat.le_of_lt h45) _).setCell (Nat.le_of_lt h45) _⟩, rfl⟩, by simp [intOf]; omega⟩
      · obtain ⟨r, hr⟩ : ∃ r : Int, (if x = mm then 0 else 1) = r := ⟨_, rfl⟩
        have hr0 : 0 ≤ r := by rw [← hr]; split <;> omega
        have hr1 : ¬ r < 0 := by omega
        have HC := Lib.hid hc
        have HRR := Lib.hid hr
        have HN := Lib.hid (show minP (l.take (k + 1 + 1)) = mm by rw [HMT.out, HMM.out, if_neg hc])
        clear hc hr
        go_wp2_with fail
        ((refine wp_region_kinK (W := w) (by kernel_rfl) (by kernel_rfl) (by repeat (first | with_reducible (first | exact blA | exact blB | refine blC _ ?_ | refine blD ?_ ?_ _ | refine blE ?_ | refine blF _ ?_ | refine blG ?_ _ | refine blH ?_ | refine blI ?_ ?_ _) | (simp only [World.size_alloc]; omega) | (simp <;> omega))) ?_); (repeat' (first | go_big_quiet_step ((go_at_call 36; exact Kin.quiet _ (cmp_ge _ HC.out HRR.out))) | ((refine wpQuiet_guard rfl rfl rfl rfl (fun hg => ?_) (fun hg => ?_)) <;> (fail_if_success (first | guard_hyp hg : true = true | guard_hyp hg : false = false)) <;> (try simp only [decide_eq_true_eq, decide_eq_false_iff_not] at hg) <;> simp only [Act.put, List.setIfInBounds_toArray, List.set_cons_zero, List.set_cons_succ]))); all_goals ((with_reducible refine wpQuiet_nil ?_); intro zq hz))
        have HB4z := Lib.hid (HB4.out.below hz)
        have HB5z := Lib.hid (HB5.out.below hz)
        have z_0 : zq.1.cell? ⟨g5, 0, none⟩ = some (.int .i64 mm.1) := HB5z.out.cell 0
        have z_1 : zq.1.cell? ⟨g5, 1, none⟩ = some (.int .i64 mm.2) := HB5z.out.cell 1
        have zf_0 : zq.1.frozen? ⟨g5, 0, none⟩ = false := HB5z.out.frozen 0
        have zf_1 : zq.1.frozen? ⟨g5, 1, none⟩ = false := HB5z.out.frozen 1
        have zl := HB5z.out.lt
        clear hz
        go_wp2_with fail
        refine ⟨⟨k + 1, by omega, by go_num, HB4z, Lib.hid (by rw [HN.out]; exact HB5z.out), zq, rfl⟩, by simp [intOf]; omega⟩
    · have HE := Lib.hid (show minP l = mm by rw [← HMM.out, List.take_of_length_le (by omega)])
      go_wp2_with fail
      ((try simp only [Exit.inBlock, Exit.then]); refine bodyPost_ret (results_cell_row rfl _ _ _ _ _ (0, 0) _ rfl ((HB4.out.set_ 0 _).set_ 1 _) Try.underlying36 rfl (by kernel_rfl)) rfl ?_)
      rw [HE.out]
      exact ⟨rfl, (y.2.setCell hw4 _).setCell hw4 _⟩
end Go.Proofs.Yteadnlodccnfcaa

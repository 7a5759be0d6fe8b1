/- Comparisons of equal things, and squares, as the laws call them. -/
import Derived.Test.YteadnlodccnfcaaCtrNest
namespace Go.Proofs.Yteadnlodccnfcaa
set_option linter.unusedSimpArgs false
set_option linter.unusedVariables false
set_option maxRecDepth 100000
open Go.RowKit Planar Go.Sort
attribute [local go_sem] Kin.cell Kin.frozen Kin.lt0 Kin.lt1 Kin.lt2 Kin.lt3 run_mkf
theorem neP_run (a : Pt) (w : World) : (binOp .neq 36 (.agg #[.int .i64 a.1, .int .i64 a.2]) (.agg #[.int .i64 a.1, .int .i64 a.2])).run Try.prog w = .ok (.bool false) w := by
  simp [go_sem]
set_option maxHeartbeats 4000000 in
theorem ints_true (v u : Value) (l : List Int) (w : World) (h : Rd 1 encI w v l) (h2 : Rd 1 encI w u l) (hl : l.length ≤ 1000000000) :
    Calls Try.prog 27 #[v, u] w fun e w' => e = .returned (.bool true) ∧ Below w.heap.size w w' := by
  obtain ⟨A, capA, rfl, hcapA, hopA⟩ := h.open_
  have HA := Lib.hid hopA
  have HLA := Lib.hid h
  clear hopA h
  obtain ⟨B, capB, rfl, hcapB, hopB⟩ := h2.open_
  have HB := Lib.hid hopB
  have HLB := Lib.hid h2
  clear hopB h2
  go_enter Try.func27, Try.ntmps27
  go_wp2_with fail
  go_loopw [5] (fun i wr => ∃ k : Nat, k ≤ l.length ∧ i = .int .i64 k ∧ ∃ y : Kin w, y.1 = wr) (fun i _ => l.length - (intOf i).toNat)
  case atStart => exact ⟨0, Nat.zero_le _, rfl, ⟨w, Below.refl _ _⟩, rfl⟩
  case round =>
    obtain ⟨k, hk, rfl, y, rfl⟩ := hrel
    by_cases hlt : k < l.length
    · obtain ⟨x, hx⟩ : ∃ x, l[k]? = some x := ⟨_, List.getElem?_eq_getElem hlt⟩
      obtain ⟨bA, offA, rfl, hbA, hcA⟩ := HA.out k x hx
      obtain ⟨bB, offB, rfl, hbB, hcB⟩ := HB.out k x hx
      have x_0 : w.cell? ⟨bA, offA + k, none⟩ = some (.int .i64 x) := by have := hcA k x hx 0 _ rfl; simpa using this
      have x_1 : w.cell? ⟨bB, offB + k, none⟩ = some (.int .i64 x) := by have := hcB k x hx 0 _ rfl; simpa using this
      clear hcA hcB hx
      go_wp2_with fail
      ((refine wp_region_kinK (W := w) (by kernel_rfl) (by kernel_rfl) (by repeat (first | with_reducible (first | exact blA | exact blB | refine blC _ ?_ | refine blD ?_ ?_ _ | refine blE ?_ | refine blF _ ?_ | refine blG ?_ _ | refine blH ?_ | refine blI ?_ ?_ _) | (simp only [World.size_alloc]; omega) | (simp <;> omega))) ?_); (repeat' (first | go_big_quiet_step (fail) | ((refine wpQuiet_guard rfl rfl rfl rfl (fun hg => ?_) (fun hg => ?_)) <;> (fail_if_success (first | guard_hyp hg : true = true | guard_hyp hg : false = false)) <;> (try simp only [decide_eq_true_eq, decide_eq_false_iff_not] at hg) <;> simp only [Act.put, List.setIfInBounds_toArray, List.set_cons_zero, List.set_cons_succ]))); all_goals ((with_reducible refine wpQuiet_nil ?_); intro zq hz))
      go_wp2_with fail
      refine ⟨⟨k + 1, by omega, by go_num, zq, rfl⟩, by simp [intOf]; omega⟩
    · go_wp2_with fail
      go_ret
      exact ⟨rfl, y.2⟩
set_option maxHeartbeats 8000000 in
theorem samePols_true (v u : Value) (l : List (List Pt)) (w : World) (h : RdPols w v l) (h2 : RdPols w u l) (hl : l.length ≤ 1000000000) (hb : ∀ o ∈ l, o.length ≤ 1000000000) :
    Calls Try.prog 16 #[v, u] w fun e w' => e = .returned (.bool true) ∧ Below w.heap.size w w' := by
  have HBD := Lib.hid hb
  obtain ⟨A, capA, rfl, hcapA, hopA⟩ := pols_open h
  have HA := Lib.hid hopA
  have HLA := Lib.hid h
  clear hopA h
  obtain ⟨B, capB, rfl, hcapB, hopB⟩ := pols_open h2
  have HB := Lib.hid hopB
  have HLB := Lib.hid h2
  clear hopB h2
  clear hb
  go_enter Try.func16, Try.ntmps16
  go_wp2_with fail
  go_loopw [5] (fun i wr => ∃ k : Nat, k ≤ l.length ∧ i = .int .i64 k ∧ ∃ y : Kin w, y.1 = wr) (fun i _ => l.length - (intOf i).toNat)
  case atStart => exact ⟨0, Nat.zero_le _, rfl, ⟨w, Below.refl _ _⟩, rfl⟩
  case round =>
    obtain ⟨k, hk, rfl, y, rfl⟩ := hrel
    by_cases hlt : k < l.length
    · obtain ⟨o, ho⟩ : ∃ x, l[k]? = some x := ⟨_, List.getElem?_eq_getElem hlt⟩
      obtain ⟨bA, offA, rfl, hbA, hcA⟩ := HA.out k o ho
      obtain ⟨bB, offB, rfl, hbB, hcB⟩ := HB.out k o ho
      obtain ⟨SA, cA, a_0, hcA2, hrA⟩ := hcA k o ho
      obtain ⟨SB, cB, b_0, hcB2, hrB⟩ := hcB k o ho
      have ho1 : o.length ≤ 1000000000 := HBD.out o (List.mem_of_getElem? ho)
      have HRA := Lib.hid hrA
      have HRB := Lib.hid hrB
      clear hcA hcB ho hrA hrB
      go_wp2_with fail
      ((refine wp_region_kinK (W := w) (by kernel_rfl) (by kernel_rfl) (by repeat (first | with_reducible (first | exact blA | exact blB | refine blC _ ?_ | refine blD ?_ ?_ _ | refine blE ?_ | refine blF _ ?_ | refine blG ?_ _ | refine blH ?_ | refine blI ?_ ?_ _) | (simp only [World.size_alloc]; omega) | (simp <;> omega))) ?_); (repeat' (first | go_big_quiet_step (fail) | ((refine wpQuiet_guard rfl rfl rfl rfl (fun hg => ?_) (fun hg => ?_)) <;> (fail_if_success (first | guard_hyp hg : true = true | guard_hyp hg : false = false)) <;> (try simp only [decide_eq_true_eq, decide_eq_false_iff_not] at hg) <;> simp only [Act.put, List.setIfInBounds_toArray, List.set_cons_zero, List.set_cons_succ]))); all_goals ((with_reducible refine wpQuiet_nil ?_); intro zq hz))
      go_wp2_with fail
      clear hz
      go_loopw [6] (fun i wr => ∃ j : Nat, j ≤ o.length ∧ i = .int .i64 j ∧ ∃ y : Kin w, y.1 = wr) (fun i _ => o.length - (intOf i).toNat)
      case atStart => exact ⟨0, Nat.zero_le _, rfl, zq, rfl⟩
      case round =>
        obtain ⟨j, hj, rfl, y, rfl⟩ := hrel
        by_cases hjl : j < o.length
        · obtain ⟨x, hx⟩ : ∃ x, o[j]? = some x := ⟨_, List.getElem?_eq_getElem hjl⟩
          obtain ⟨bS, offS, rfl, hbS, hcS⟩ := Rd.op HRA.out j x hx
          obtain ⟨bT, offT, rfl, hbT, hcT⟩ := Rd.op HRB.out j x hx
          have x_0 : w.cell? ⟨bS, offS + j * 2, none⟩ = some (.int .i64 x.1) := hcS j x hx 0 _ rfl
          have x_1 : w.cell? ⟨bS, offS + j * 2 + 1, none⟩ = some (.int .i64 x.2) := hcS j x hx 1 _ rfl
          have x_2 : w.cell? ⟨bT, offT + j * 2, none⟩ = some (.int .i64 x.1) := hcT j x hx 0 _ rfl
          have x_3 : w.cell? ⟨bT, offT + j * 2 + 1, none⟩ = some (.int .i64 x.2) := hcT j x hx 1 _ rfl
          have hrun := neP_run x
          clear hcS hcT hx
          go_wp2_with fail
          ((refine wp_region_kinK (W := w) (by kernel_rfl) (by kernel_rfl) (by repeat (first | with_reducible (first | exact blA | exact blB | refine blC _ ?_ | refine blD ?_ ?_ _ | refine blE ?_ | refine blF _ ?_ | refine blG ?_ _ | refine blH ?_ | refine blI ?_ ?_ _) | (simp only [World.size_alloc]; omega) | (simp <;> omega))) ?_); (repeat' (first | go_big_quiet_step (fail) | ((refine wpQuiet_guard rfl rfl rfl rfl (fun hg => ?_) (fun hg => ?_)) <;> (fail_if_success (first | guard_hyp hg : true = true | guard_hyp hg : false = false)) <;> (try simp only [decide_eq_true_eq, decide_eq_false_iff_not] at hg) <;> simp only [Act.put, List.setIfInBounds_toArray, List.set_cons_zero, List.set_cons_succ]))); all_goals ((with_reducible refine wpQuiet_nil ?_); intro zq hz))
          go_wp2_with fail
          refine ⟨⟨j + 1, by omega, by go_num, zq, rfl⟩, by simp [intOf]; omega⟩
        · go_wp2_with fail
          go_roundw
          case rel => exact ⟨k + 1, by omega, by go_num, y, rfl⟩
          case measure => simp [intOf]; omega
    · go_wp2_with fail
      go_ret
      exact ⟨rfl, y.2⟩
/-- the square from (a, a) to (b, b), begun at a corner -/
def sqC (a b : Int) : List Pt := [(a, a), (b, a), (b, b), (a, b)]
def sqP (a b : Int) (k : Nat) : List Pt := (List.range 4).map fun i => (sqC a b).getD ((k + i) % 4) (0, 0)
def sqTo (a b : Int) (k j : Nat) : List Pt := (List.range j).map fun i => (sqC a b).getD ((k + i) % 4) (0, 0)
theorem sqTo_succ (a b : Int) (k j : Nat) : sqTo a b k (j + 1) = sqTo a b k j ++ [(sqC a b).getD ((k + j) % 4) (0, 0)] := by simp [sqTo, List.range_succ]
set_option maxHeartbeats 4000000 in
theorem square_any (a b : Int) (k : Nat) (w : World) (hk : k < 4) :
    Calls Try.prog 28 #[.int .i64 a, .int .i64 b, .int .i64 k] w fun e w' => (∃ S c, e = .returned (.agg #[.slice S 4 c]) ∧ w'.ownsRow w.heap.size 36 2 (.slice S 4 c) 4 ((sqP a b k).flatMap encPt)) ∧ Below w.heap.size w w' := by
  go_enter Try.func28, Try.ntmps28
  go_wp2_with fail
  obtain ⟨y0, hy0⟩ : ∃ y0 : Kin w, y0.1 = (w.alloc (.cells #[.slice none 0 0] 42)).alloc (.cells #[.int .i64 a, .int .i64 a, .int .i64 b, .int .i64 a, .int .i64 b, .int .i64 b, .int .i64 a, .int .i64 b] 36) := ⟨⟨(w.alloc _).alloc _, (by repeat (first | with_reducible (first | exact blA | exact blB | refine blC _ ?_ | refine blD ?_ ?_ _ | refine blE ?_ | refine blF _ ?_ | refine blG ?_ _ | refine blH ?_ | refine blI ?_ ?_ _) | (simp only [World.size_alloc]; omega) | (simp <;> omega)))⟩, rfl⟩
  have B0 := (Blk.new w 42 #[.slice none 0 0]).al_ (.cells #[.int .i64 a, .int .i64 a, .int .i64 b, .int .i64 a, .int .i64 b, .int .i64 b, .int .i64 a, .int .i64 b] 36)
  have R0 : Rd 2 encPt ((w.alloc (.cells #[.slice none 0 0] 42)).alloc (.cells #[.int .i64 a, .int .i64 a, .int .i64 b, .int .i64 a, .int .i64 b, .int .i64 b, .int .i64 a, .int .i64 b] 36)) (.slice (some ⟨w.heap.size + 1, 0, none⟩) 4 4) (sqC a b) :=
    rd_lit (w.alloc (.cells #[.slice none 0 0] 42)) encPt_len 36 (sqC a b) rfl (by simp [maxLen, sqC]) (by simp) rfl
  rw [← hy0] at B0 R0 ⊢
  have HB0 := Lib.hid B0
  have HR0 := Lib.hid R0
  clear B0 R0 hy0
  go_loopw [8, 9] (fun u i wr => ∃ j : Nat, j ≤ 4 ∧ i = .int .i64 j ∧ Hid (wr.ownsRow y0.1.heap.size 36 2 u (sqTo a b k j).length ((sqTo a b k j).flatMap encPt)) ∧ Hid (Blk wr w.heap.size 42 #[.slice none 0 0]) ∧ ∃ z : Kin y0.1, z.1 = wr) (fun _ i _ => 4 - (intOf i).toNat)
  case atStart => exact ⟨0, Nat.zero_le _, rfl, Lib.hid (World.ownsRow_nil _ _ _ _), HB0, ⟨y0.1, Below.refl _ _⟩, rfl⟩
  case round =>
    obtain ⟨j, hj, rfl, HO, HB, z, rfl⟩ := hrel
    by_cases hlt : j < 4
    · have hm4 : (k + j) % 4 < 4 := Nat.mod_lt _ (by omega)
      obtain ⟨x, hx⟩ : ∃ x, (sqC a b)[(k + j) % 4]? = some x := ⟨_, List.getElem?_eq_getElem (by simp [sqC]; exact hm4)⟩
      obtain ⟨bS, offS, hA, hbS, hcc⟩ := Rd.op HR0.out ((k + j) % 4) x hx
      injection hA with hA
      injection hA with e4 e5
      subst e4 e5
      have x_0 : y0.1.cell? ⟨w.heap.size + 1, (k + j) % 4 * 2, none⟩ = some (.int .i64 x.1) := by have := hcc _ x hx 0 _ rfl; simpa using this
      have x_1 : y0.1.cell? ⟨w.heap.size + 1, (k + j) % 4 * 2 + 1, none⟩ = some (.int .i64 x.2) := by have := hcc _ x hx 1 _ rfl; simpa using this
      have HST := Lib.hid (show sqTo a b k (j + 1) = sqTo a b k j ++ [x] by rw [sqTo_succ, List.getD_eq_getElem?_getD, hx]; rfl)
      have e1 : IntKind.i64.wrap ((k : Int) + (j : Int)) = (k : Int) + (j : Int) := IntWalk.i64_in _ (by omega)
      have e3 : IntKind.i64.wrap (((k : Int) + (j : Int)) % 4) = ((k : Int) + (j : Int)) % 4 := IntWalk.i64_in _ (by omega)
      have hls : (sqTo a b k j).length ≤ 4 := by simp [sqTo]; omega
      clear hcc hx
      go_wp2_with (at_builtin; refine wpList_app _ rfl _ _ 40 rfl encPt_len (by decide) oneP y0.1.heap.size 36 (.agg #[.int .i64 0, .int .i64 0]) 16 infoPt2 rfl Try.underlying40 _ _ _ _ rfl (HO.out.alloc _) _ _ _ rfl (rd_one _ encPt_len _ x _ rfl) ?c1 (by decide) ?c2 ?_; (case c1 => (first | (simp only [List.length_append, List.length_cons, List.length_nil]; omega) | omega | (simp; omega))); (case c2 => exact (by repeat (first | with_reducible exact Nat.le_refl _ | assumption | with_reducible refine le_alloc ?_ _ | with_reducible refine le_drew ?_ | with_reducible refine Kin.le _ ?_ | assumption | omega | (simp only [World.size_alloc]; omega)))); intro v' w1 hown' hg hbel hat'; ((obtain ⟨z2, rfl⟩ : ∃ z2 : Kin y0.1, z2.1 = w1 := ⟨⟨w1, Below.trans (by repeat (first | with_reducible (first | exact blA | exact blB | refine blC _ ?_ | refine blD ?_ ?_ _ | refine blE ?_ | refine blF _ ?_ | refine blG ?_ _ | refine blH ?_ | refine blI ?_ ?_ _) | (simp only [World.size_alloc]; omega) | (simp <;> omega))) hbel⟩, rfl⟩); have HO2 := Lib.hid hown'; have HB2 := Lib.hid ((HB.out.al_ _).grown hg (fun e => own_ne HO.out HB.out (by decide) e.symm)); clear hown' hg hbel hat'))
      refine ⟨⟨j + 1, by omega, by go_num, Lib.hid (by rw [HST.out]; exact HO2.out), HB2, z2, rfl⟩, by simp [intOf]; omega⟩
    · have hj4 : j = 4 := by omega
      subst hj4
      obtain ⟨Su, cu, rfl⟩ := own_slc HO.out
      have r_0 : z.1.cell? ⟨w.heap.size, 0, none⟩ = some (.slice none 0 0) := HB.out.cell 0
      have r_f : z.1.frozen? ⟨w.heap.size, 0, none⟩ = false := HB.out.frozen 0
      have r_l := HB.out.lt
      go_wp2_with fail
      ((try simp only [Exit.inBlock, Exit.then]); refine bodyPost_ret (results_cell_row rfl _ _ _ _ _ (0, 0) _ rfl (HB.out.set_ 0 _) Try.underlying42 rfl (by kernel_rfl)) rfl ?_)
      have hl4 : (sqTo a b k 4).length = 4 := by simp [sqTo]
      have hO := HO.out
      rw [hl4] at hO
      refine ⟨⟨Su, cu, by simp [hl4], ?_⟩, Below.setCell (z.2.mono y0.2.size |> y0.2.trans) (Nat.le_refl _) _⟩
      exact own_base (own_grownBy hO (grownBy_set _) (own_ne hO HB.out (by decide))) y0.2.size
end Go.Proofs.Yteadnlodccnfcaa

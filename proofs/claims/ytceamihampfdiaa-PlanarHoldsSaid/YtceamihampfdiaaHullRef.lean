/- The chapter's Hull, walked. -/
import Derived.Test.YtceamihampfdiaaHullFol
import Derived.Test.YtceamihampfdiaaHullVars
namespace Go.Proofs.Ytceamihampfdiaa
set_option linter.unusedSimpArgs false
set_option linter.unusedVariables false
set_option maxRecDepth 100000
open Go.RowKit Go.Proofs Planar
attribute [local go_sem] Kin.cell Kin.frozen Kin.lt0 Kin.lt1 Kin.lt2 Kin.lt3 run_mkf
theorem blk_alloc2' (w : World) (o : Obj) (t : TypeId) (cs : Array Value) : Blk ((w.alloc o).alloc (.cells cs t)) (w.heap.size + 1) t cs := by
  have := Blk.new (w.alloc o) t cs
  rwa [World.size_alloc] at this
theorem eq2_run {x y x' y' : Int} {r : Bool} (h : eq2 x y x' y' = r) : ∀ w : World, (binOp .eql 23 (.agg #[.int .i64 x, .int .i64 y]) (.agg #[.int .i64 x', .int .i64 y'])).run Try.prog w = .ok (.bool r) w := fun w => by rw [run_eq2, h]
def lxB (a b : Pt) : Bool := decide (a.1 < b.1) || (decide (a.1 = b.1) && decide (a.2 < b.2))
theorem lxB_iff {a b : Pt} : lxB a b = true ↔ lx a b := by simp [lxB, lx]
theorem less_ref (a b : Pt) (w : World) : Calls Try.prog 48 #[pv a, pv b] w fun e w' => e = .returned (.bool (lxB a b)) ∧ Below w.heap.size w w' := by
  go_enter Try.func48, Try.ntmps48
  go_wp2
  all_goals
    go_ret
    exact ⟨ret_bool (by simp [lxB, *] <;> omega), (by repeat (first | with_reducible (first | exact blA | exact blB | refine blC _ ?_ | refine blD ?_ ?_ _ | refine blE ?_ | refine blF _ ?_ | refine blG ?_ _ | refine blH ?_ | refine blI ?_ ?_ _) | (simp only [World.size_alloc]; omega) | (simp <;> omega)))⟩
theorem less_is {r : Bool} (a b : Pt) (w : World) (h : lxB a b = r) : Calls Try.prog 48 #[pv a, pv b] w fun e w' => e = .returned (.bool r) ∧ Below w.heap.size w w' := by rw [← h]; exact less_ref a b w
theorem turn_refI {r : Int} (a b c : Pt) (w : World) (h : turn a b c = r) : Calls Try.prog 26 #[pv a, pv b, pv c] w fun e w' => e = .returned (.int .i64 r) ∧ Below w.heap.size w w' := by rw [← h]; exact turn_ref a b c w
theorem dist_refI {r : Int} (a b : Pt) (w : World) (h : dist2 a b = r) : Calls Try.prog 28 #[pv a, pv b] w fun e w' => e = .returned (.int .i64 r) ∧ Below w.heap.size w w' := by rw [← h]; exact dist_ref a b w
set_option maxHeartbeats 8000000 in
theorem following_any (v : Value) (l : List Pt) (a b : Pt) (w : World) (h : Rd 2 encPt w v l) (hlen : l.length ≤ 1099511627776) (ha : a ∈ l) (hb : b ∈ l) (step : ∀ nx ∈ l, ∀ p ∈ l, (nx = b ∨ p = b) → folS a nx p = b) :
    Calls Try.prog 49 #[v, pv a] w fun e w' => e = .returned (pv b) ∧ Below w.heap.size w w' := by
  obtain ⟨A, capA, rfl, hcapA, hopA⟩ := h.open_
  have HA := Lib.hid hopA
  have HLA := Lib.hid h
  clear hopA h
  obtain ⟨n, hL⟩ : ∃ n, l.length = n := ⟨_, rfl⟩
  have HL := Lib.hid hL
  rw [hL] at hcapA HLA hlen ⊢
  clear hL
  have HS := Lib.hid step
  have HA' := Lib.hid ha
  have HB' := Lib.hid hb
  clear step ha hb
  obtain ⟨W2, hW2⟩ : ∃ W2, W2 = (w.alloc (.cells #[.int .i64 a.1, .int .i64 a.2] 23)).alloc (.cells #[.int .i64 0, .int .i64 0] 23) := ⟨_, rfl⟩
  have HB1 := Lib.hid (show Blk W2 w.heap.size 23 #[.int .i64 a.1, .int .i64 a.2] from hW2 ▸ (Blk.new w _ _).below (Below.alloc (Below.refl _ _) (Nat.le_refl _) _))
  have HB2 := Lib.hid (show Blk W2 (w.heap.size + 1) 23 #[.int .i64 0, .int .i64 0] from hW2 ▸ blk_alloc2' w _ _ _)
  have HBW := Lib.hid (show Below w.heap.size w W2 from hW2 ▸ (by repeat (first | with_reducible (first | exact blA | exact blB | refine blC _ ?_ | refine blD ?_ ?_ _ | refine blE ?_ | refine blF _ ?_ | refine blG ?_ _ | refine blH ?_ | refine blI ?_ ?_ _) | (simp only [World.size_alloc]; omega) | (simp <;> omega))))
  have hs2 : W2.heap.size = w.heap.size + 1 + 1 := by rw [hW2]; simp
  go_enter Try.func49, Try.ntmps49
  go_wp2
  rw [← hW2]
  clear hW2
  go_loopw [6] (fun i wr => ∃ k : Nat, k ≤ n ∧ i = .int .i64 k ∧ ∃ nx : Pt, Hid (nx ∈ l) ∧ Hid (b ∈ l.take k → nx = b) ∧ Hid (Blk wr (w.heap.size + 1 + 1) 23 #[.int .i64 nx.1, .int .i64 nx.2]) ∧ ∃ y : Kin W2, y.1 = wr) (fun i _ => n - (intOf i).toNat)
  case atStart => exact ⟨0, Nat.zero_le _, rfl, a, HA', Lib.hid (fun h => by simp at h), Lib.hid (hs2 ▸ Blk.new W2 _ _), ⟨W2.alloc _, (by repeat (first | with_reducible (first | exact blA | exact blB | refine blC _ ?_ | refine blD ?_ ?_ _ | refine blE ?_ | refine blF _ ?_ | refine blG ?_ _ | refine blH ?_ | refine blI ?_ ?_ _) | (simp only [World.size_alloc]; omega) | (simp <;> omega)))⟩, rfl⟩
  case round =>
    obtain ⟨k, hk, rfl, nx, HM, HN, HP, y, rfl⟩ := hrel
    have hHW := Lib.hid (HBW.out.trans (y.2.mono HBW.out.size))
    have HP1 := Lib.hid (HB1.out.below y.2)
    have a0 : y.1.cell? ⟨w.heap.size, 0, none⟩ = some (.int .i64 a.1) := HP1.out.cell 0
    have a1 : y.1.cell? ⟨w.heap.size, 1, none⟩ = some (.int .i64 a.2) := HP1.out.cell 1
    have al := HP1.out.lt
    have n0 : y.1.cell? ⟨w.heap.size + 1 + 1, 0, none⟩ = some (.int .i64 nx.1) := HP.out.cell 0
    have n1 : y.1.cell? ⟨w.heap.size + 1 + 1, 1, none⟩ = some (.int .i64 nx.2) := HP.out.cell 1
    have nl := HP.out.lt
    have nf0 : y.1.frozen? ⟨w.heap.size + 1 + 1, 0, none⟩ = false := HP.out.frozen 0
    have nf1 : y.1.frozen? ⟨w.heap.size + 1 + 1, 1, none⟩ = false := HP.out.frozen 1
    have nle : W2.heap.size ≤ w.heap.size + 1 + 1 := by omega
    by_cases hlt : k < n
    · obtain ⟨p, hp⟩ : ∃ el_, (l)[k]? = some el_ := ⟨_, List.getElem?_eq_getElem (by first | exact (by rw [HL.out]; exact hlt) | omega)⟩
      obtain ⟨bA, offA, rfl, hbA, hcA⟩ := HA.out (k) _ hp
      have p_0 : w.cell? ⟨bA, offA + k * 2, none⟩ = some (.int .i64 p.1) := by exact hcA (k) _ hp 0 _ rfl
      have p_1 : w.cell? ⟨bA, offA + k * 2 + 1, none⟩ = some (.int .i64 p.2) := by exact hcA (k) _ hp 1 _ rfl
      have hbA2 : bA < w.heap.size + 1 := by omega
      have HAc := Lib.hid hcA
      have Hp := Lib.hid hp
      clear hp hcA
      have g0 : y.1.cell? ⟨bA, offA + k * 2, none⟩ = some (.int .i64 p.1) := (hHW.out.cell (p := ⟨bA, _, none⟩) hbA).trans p_0
      have g1 : y.1.cell? ⟨bA, offA + k * 2 + 1, none⟩ = some (.int .i64 p.2) := (hHW.out.cell (p := ⟨bA, _, none⟩) hbA).trans p_1
      have gl : bA < y.1.heap.size := Nat.lt_of_lt_of_le hbA hHW.out.size
      have hpl : p ∈ l := List.mem_of_getElem? Hp.out
      have hnew : b ∈ l.take (k + 1) → folS a nx p = b := fun hh => by
        refine HS.out nx HM.out p hpl ?_
        rw [List.take_add_one, Hp.out] at hh
        rcases List.mem_append.1 hh with hh | hh
        · exact .inl (HN.out hh)
        · right; have : b = p := by simpa using hh
          exact this.symm
      have HX := Lib.hid hpl
      obtain ⟨T, hT⟩ : ∃ T, turn a nx p = T := ⟨_, rfl⟩
      have hfol : folS a nx p = if decide (nx = a) || (decide (T < 0) || (decide (T = 0) && decide (dist2 a nx < dist2 a p))) then p else nx := by unfold folS nearer; rw [hT]
      rw [hfol] at hnew
      have HT := Lib.hid hT
      clear p_0 p_1 hbA2 hpl hfol hT
      by_cases c1 : nx = a
      · have he : eq2 nx.1 nx.2 a.1 a.2 = true := (eq2_iff nx a).2 c1
        have hre := eq2_run he
        clear he
        have HY := Lib.hid (show b ∈ l.take (k + 1) → p = b from fun hh => by have := hnew hh; simpa [c1] using this)
        clear hnew c1
        go_wp2_with (go_at_call 26; (with_reducible refine (Kin.callK (W := W2) (by repeat (first | with_reducible (first | exact blA | exact blB | refine blC _ ?_ | refine blD ?_ ?_ _ | refine blE ?_ | refine blF _ ?_ | refine blG ?_ _ | refine blH ?_ | refine blI ?_ ?_ _) | (simp only [World.size_alloc]; omega) | (simp <;> omega))) (turn_refI a nx p _ HT.out)).mono ?_); rintro e w' ⟨z, rfl, hz, rfl⟩; (have hyz := Lib.hid ((Below.alloc (Below.refl (Kin.wd y).heap.size (Kin.wd y)) (Nat.le_refl _) (.cells #[.int .i64 p.1, .int .i64 p.2] 23)).trans (hz.mono (by rw [World.size_alloc]; exact Nat.le_succ _))); have PN := Lib.hid (HP.out.below hyz.out); have PA := Lib.hid (HP1.out.below hyz.out); have PP := Lib.hid ((Blk.new (Kin.wd y) 23 #[.int .i64 p.1, .int .i64 p.2]).below hz); have a0 : (Kin.wd z).cell? ⟨w.heap.size, 0, none⟩ = some (.int .i64 a.1) := PA.out.cell 0; have a1 : (Kin.wd z).cell? ⟨w.heap.size, 1, none⟩ = some (.int .i64 a.2) := PA.out.cell 1; have al := PA.out.lt; have n0 : (Kin.wd z).cell? ⟨w.heap.size + 1 + 1, 0, none⟩ = some (.int .i64 nx.1) := PN.out.cell 0; have n1 : (Kin.wd z).cell? ⟨w.heap.size + 1 + 1, 1, none⟩ = some (.int .i64 nx.2) := PN.out.cell 1; have nl := PN.out.lt; have p0 : (Kin.wd z).cell? ⟨(Kin.wd y).heap.size, 0, none⟩ = some (.int .i64 p.1) := PP.out.cell 0; have p1 : (Kin.wd z).cell? ⟨(Kin.wd y).heap.size, 1, none⟩ = some (.int .i64 p.2) := PP.out.cell 1; have pl := PP.out.lt))
        ((refine wp_region_kinK (W := W2) (by kernel_rfl) (by kernel_rfl) (by repeat (first | with_reducible (first | exact blA | exact blB | refine blC _ ?_ | refine blD ?_ ?_ _ | refine blE ?_ | refine blF _ ?_ | refine blG ?_ _ | refine blH ?_ | refine blI ?_ ?_ _) | (simp only [World.size_alloc]; omega) | (simp <;> omega))) ?_); (repeat' (first | go_big_quiet_step ((go_at_call 28; exact Kin.quiet _ (dist_ref _ _ _))) | ((refine wpQuiet_guard rfl rfl rfl rfl (fun hg => ?_) (fun hg => ?_)) <;> (fail_if_success (first | guard_hyp hg : true = true | guard_hyp hg : false = false)) <;> (try simp only [decide_eq_true_eq, decide_eq_false_iff_not] at hg) <;> simp only [Act.put, List.setIfInBounds_toArray, List.set_cons_zero, List.set_cons_succ]))); all_goals ((with_reducible refine wpQuiet_nil ?_); intro zq hz))
        have hz1 := hz
        have QN := Lib.hid (PN.out.below hz1)
        have QP := Lib.hid (PP.out.below hz1)
        have m0 : zq.1.cell? ⟨w.heap.size + 1 + 1, 0, none⟩ = some (.int .i64 nx.1) := QN.out.cell 0
        have m1 : zq.1.cell? ⟨w.heap.size + 1 + 1, 1, none⟩ = some (.int .i64 nx.2) := QN.out.cell 1
        have ml := QN.out.lt
        have mf0 : zq.1.frozen? ⟨w.heap.size + 1 + 1, 0, none⟩ = false := QN.out.frozen 0
        have mf1 : zq.1.frozen? ⟨w.heap.size + 1 + 1, 1, none⟩ = false := QN.out.frozen 1
        have p2 : zq.1.cell? ⟨y.1.heap.size, 0, none⟩ = some (.int .i64 p.1) := QP.out.cell 0
        have p3 : zq.1.cell? ⟨y.1.heap.size, 1, none⟩ = some (.int .i64 p.2) := QP.out.cell 1
        have pl3 := QP.out.lt
        go_wp2
        go_roundw
        case rel => exact ⟨k + 1, by omega, by go_num, p, HX, HY, Lib.hid ((QN.out.set_ 0 _).set_ 1 _), ⟨_, Below.setCell (Below.setCell zq.2 nle _) nle _⟩, rfl⟩
        case measure => simp [intOf]; omega
      · have he : eq2 nx.1 nx.2 a.1 a.2 = false := by
          cases hh : eq2 nx.1 nx.2 a.1 a.2
          · rfl
          · exact absurd ((eq2_iff nx a).1 hh) c1
        have hre := eq2_run he
        clear he
        by_cases c2 : T < 0
        · have HY := Lib.hid (show b ∈ l.take (k + 1) → p = b from fun hh => by have := hnew hh; simpa [c1, c2] using this)
          clear hnew c1
          go_wp2_with (go_at_call 26; (with_reducible refine (Kin.callK (W := W2) (by repeat (first | with_reducible (first | exact blA | exact blB | refine blC _ ?_ | refine blD ?_ ?_ _ | refine blE ?_ | refine blF _ ?_ | refine blG ?_ _ | refine blH ?_ | refine blI ?_ ?_ _) | (simp only [World.size_alloc]; omega) | (simp <;> omega))) (turn_refI a nx p _ HT.out)).mono ?_); rintro e w' ⟨z, rfl, hz, rfl⟩; (have hyz := Lib.hid ((Below.alloc (Below.refl (Kin.wd y).heap.size (Kin.wd y)) (Nat.le_refl _) (.cells #[.int .i64 p.1, .int .i64 p.2] 23)).trans (hz.mono (by rw [World.size_alloc]; exact Nat.le_succ _))); have PN := Lib.hid (HP.out.below hyz.out); have PA := Lib.hid (HP1.out.below hyz.out); have PP := Lib.hid ((Blk.new (Kin.wd y) 23 #[.int .i64 p.1, .int .i64 p.2]).below hz); have a0 : (Kin.wd z).cell? ⟨w.heap.size, 0, none⟩ = some (.int .i64 a.1) := PA.out.cell 0; have a1 : (Kin.wd z).cell? ⟨w.heap.size, 1, none⟩ = some (.int .i64 a.2) := PA.out.cell 1; have al := PA.out.lt; have n0 : (Kin.wd z).cell? ⟨w.heap.size + 1 + 1, 0, none⟩ = some (.int .i64 nx.1) := PN.out.cell 0; have n1 : (Kin.wd z).cell? ⟨w.heap.size + 1 + 1, 1, none⟩ = some (.int .i64 nx.2) := PN.out.cell 1; have nl := PN.out.lt; have p0 : (Kin.wd z).cell? ⟨(Kin.wd y).heap.size, 0, none⟩ = some (.int .i64 p.1) := PP.out.cell 0; have p1 : (Kin.wd z).cell? ⟨(Kin.wd y).heap.size, 1, none⟩ = some (.int .i64 p.2) := PP.out.cell 1; have pl := PP.out.lt))
          ((refine wp_region_kinK (W := W2) (by kernel_rfl) (by kernel_rfl) (by repeat (first | with_reducible (first | exact blA | exact blB | refine blC _ ?_ | refine blD ?_ ?_ _ | refine blE ?_ | refine blF _ ?_ | refine blG ?_ _ | refine blH ?_ | refine blI ?_ ?_ _) | (simp only [World.size_alloc]; omega) | (simp <;> omega))) ?_); (repeat' (first | go_big_quiet_step ((go_at_call 28; exact Kin.quiet _ (dist_ref _ _ _))) | ((refine wpQuiet_guard rfl rfl rfl rfl (fun hg => ?_) (fun hg => ?_)) <;> (fail_if_success (first | guard_hyp hg : true = true | guard_hyp hg : false = false)) <;> (try simp only [decide_eq_true_eq, decide_eq_false_iff_not] at hg) <;> simp only [Act.put, List.setIfInBounds_toArray, List.set_cons_zero, List.set_cons_succ]))); all_goals ((with_reducible refine wpQuiet_nil ?_); intro zq hz))
          have hz1 := hz
          have QN := Lib.hid (PN.out.below hz1)
          have QP := Lib.hid (PP.out.below hz1)
          have m0 : zq.1.cell? ⟨w.heap.size + 1 + 1, 0, none⟩ = some (.int .i64 nx.1) := QN.out.cell 0
          have m1 : zq.1.cell? ⟨w.heap.size + 1 + 1, 1, none⟩ = some (.int .i64 nx.2) := QN.out.cell 1
          have ml := QN.out.lt
          have mf0 : zq.1.frozen? ⟨w.heap.size + 1 + 1, 0, none⟩ = false := QN.out.frozen 0
          have mf1 : zq.1.frozen? ⟨w.heap.size + 1 + 1, 1, none⟩ = false := QN.out.frozen 1
          have p2 : zq.1.cell? ⟨y.1.heap.size, 0, none⟩ = some (.int .i64 p.1) := QP.out.cell 0
          have p3 : zq.1.cell? ⟨y.1.heap.size, 1, none⟩ = some (.int .i64 p.2) := QP.out.cell 1
          have pl3 := QP.out.lt
          go_wp2
          go_roundw
          case rel => exact ⟨k + 1, by omega, by go_num, p, HX, HY, Lib.hid ((QN.out.set_ 0 _).set_ 1 _), ⟨_, Below.setCell (Below.setCell zq.2 nle _) nle _⟩, rfl⟩
          case measure => simp [intOf]; omega
        · by_cases c3 : T = 0
          · subst c3
            by_cases c4 : dist2 a nx < dist2 a p
            · have HY := Lib.hid (show b ∈ l.take (k + 1) → p = b from fun hh => by have := hnew hh; simpa [c1, c2, c4] using this)
              clear hnew c1
              go_wp2_with (go_at_call 26; (with_reducible refine (Kin.callK (W := W2) (by repeat (first | with_reducible (first | exact blA | exact blB | refine blC _ ?_ | refine blD ?_ ?_ _ | refine blE ?_ | refine blF _ ?_ | refine blG ?_ _ | refine blH ?_ | refine blI ?_ ?_ _) | (simp only [World.size_alloc]; omega) | (simp <;> omega))) (turn_refI a nx p _ HT.out)).mono ?_); rintro e w' ⟨z, rfl, hz, rfl⟩; (have hyz := Lib.hid ((Below.alloc (Below.refl (Kin.wd y).heap.size (Kin.wd y)) (Nat.le_refl _) (.cells #[.int .i64 p.1, .int .i64 p.2] 23)).trans (hz.mono (by rw [World.size_alloc]; exact Nat.le_succ _))); have PN := Lib.hid (HP.out.below hyz.out); have PA := Lib.hid (HP1.out.below hyz.out); have PP := Lib.hid ((Blk.new (Kin.wd y) 23 #[.int .i64 p.1, .int .i64 p.2]).below hz); have a0 : (Kin.wd z).cell? ⟨w.heap.size, 0, none⟩ = some (.int .i64 a.1) := PA.out.cell 0; have a1 : (Kin.wd z).cell? ⟨w.heap.size, 1, none⟩ = some (.int .i64 a.2) := PA.out.cell 1; have al := PA.out.lt; have n0 : (Kin.wd z).cell? ⟨w.heap.size + 1 + 1, 0, none⟩ = some (.int .i64 nx.1) := PN.out.cell 0; have n1 : (Kin.wd z).cell? ⟨w.heap.size + 1 + 1, 1, none⟩ = some (.int .i64 nx.2) := PN.out.cell 1; have nl := PN.out.lt; have p0 : (Kin.wd z).cell? ⟨(Kin.wd y).heap.size, 0, none⟩ = some (.int .i64 p.1) := PP.out.cell 0; have p1 : (Kin.wd z).cell? ⟨(Kin.wd y).heap.size, 1, none⟩ = some (.int .i64 p.2) := PP.out.cell 1; have pl := PP.out.lt))
              ((refine wp_region_kinK (W := W2) (by kernel_rfl) (by kernel_rfl) (by repeat (first | with_reducible (first | exact blA | exact blB | refine blC _ ?_ | refine blD ?_ ?_ _ | refine blE ?_ | refine blF _ ?_ | refine blG ?_ _ | refine blH ?_ | refine blI ?_ ?_ _) | (simp only [World.size_alloc]; omega) | (simp <;> omega))) ?_); (repeat' (first | go_big_quiet_step ((go_at_call 28; exact Kin.quiet _ (dist_ref _ _ _))) | ((refine wpQuiet_guard rfl rfl rfl rfl (fun hg => ?_) (fun hg => ?_)) <;> (fail_if_success (first | guard_hyp hg : true = true | guard_hyp hg : false = false)) <;> (try simp only [decide_eq_true_eq, decide_eq_false_iff_not] at hg) <;> simp only [Act.put, List.setIfInBounds_toArray, List.set_cons_zero, List.set_cons_succ]))); all_goals ((with_reducible refine wpQuiet_nil ?_); intro zq hz))
              have hz1 := hz
              have QN := Lib.hid (PN.out.below hz1)
              have QP := Lib.hid (PP.out.below hz1)
              have m0 : zq.1.cell? ⟨w.heap.size + 1 + 1, 0, none⟩ = some (.int .i64 nx.1) := QN.out.cell 0
              have m1 : zq.1.cell? ⟨w.heap.size + 1 + 1, 1, none⟩ = some (.int .i64 nx.2) := QN.out.cell 1
              have ml := QN.out.lt
              have mf0 : zq.1.frozen? ⟨w.heap.size + 1 + 1, 0, none⟩ = false := QN.out.frozen 0
              have mf1 : zq.1.frozen? ⟨w.heap.size + 1 + 1, 1, none⟩ = false := QN.out.frozen 1
              have p2 : zq.1.cell? ⟨y.1.heap.size, 0, none⟩ = some (.int .i64 p.1) := QP.out.cell 0
              have p3 : zq.1.cell? ⟨y.1.heap.size, 1, none⟩ = some (.int .i64 p.2) := QP.out.cell 1
              have pl3 := QP.out.lt
              go_wp2
              go_roundw
              case rel => exact ⟨k + 1, by omega, by go_num, p, HX, HY, Lib.hid ((QN.out.set_ 0 _).set_ 1 _), ⟨_, Below.setCell (Below.setCell zq.2 nle _) nle _⟩, rfl⟩
              case measure => simp [intOf]; omega
            · have HY := Lib.hid (show b ∈ l.take (k + 1) → nx = b from fun hh => by have := hnew hh; simpa [c1, c2, c4] using this)
              clear hnew c1
              go_wp2_with (go_at_call 26; (with_reducible refine (Kin.callK (W := W2) (by repeat (first | with_reducible (first | exact blA | exact blB | refine blC _ ?_ | refine blD ?_ ?_ _ | refine blE ?_ | refine blF _ ?_ | refine blG ?_ _ | refine blH ?_ | refine blI ?_ ?_ _) | (simp only [World.size_alloc]; omega) | (simp <;> omega))) (turn_refI a nx p _ HT.out)).mono ?_); rintro e w' ⟨z, rfl, hz, rfl⟩; (have hyz := Lib.hid ((Below.alloc (Below.refl (Kin.wd y).heap.size (Kin.wd y)) (Nat.le_refl _) (.cells #[.int .i64 p.1, .int .i64 p.2] 23)).trans (hz.mono (by rw [World.size_alloc]; exact Nat.le_succ _))); have PN := Lib.hid (HP.out.below hyz.out); have PA := Lib.hid (HP1.out.below hyz.out); have PP := Lib.hid ((Blk.new (Kin.wd y) 23 #[.int .i64 p.1, .int .i64 p.2]).below hz); have a0 : (Kin.wd z).cell? ⟨w.heap.size, 0, none⟩ = some (.int .i64 a.1) := PA.out.cell 0; have a1 : (Kin.wd z).cell? ⟨w.heap.size, 1, none⟩ = some (.int .i64 a.2) := PA.out.cell 1; have al := PA.out.lt; have n0 : (Kin.wd z).cell? ⟨w.heap.size + 1 + 1, 0, none⟩ = some (.int .i64 nx.1) := PN.out.cell 0; have n1 : (Kin.wd z).cell? ⟨w.heap.size + 1 + 1, 1, none⟩ = some (.int .i64 nx.2) := PN.out.cell 1; have nl := PN.out.lt; have p0 : (Kin.wd z).cell? ⟨(Kin.wd y).heap.size, 0, none⟩ = some (.int .i64 p.1) := PP.out.cell 0; have p1 : (Kin.wd z).cell? ⟨(Kin.wd y).heap.size, 1, none⟩ = some (.int .i64 p.2) := PP.out.cell 1; have pl := PP.out.lt))
              ((refine wp_region_kinK (W := W2) (by kernel_rfl) (by kernel_rfl) (by repeat (first | with_reducible (first | exact blA | exact blB | refine blC _ ?_ | refine blD ?_ ?_ _ | refine blE ?_ | refine blF _ ?_ | refine blG ?_ _ | refine blH ?_ | refine blI ?_ ?_ _) | (simp only [World.size_alloc]; omega) | (simp <;> omega))) ?_); (repeat' (first | go_big_quiet_step ((go_at_call 28; exact Kin.quiet _ (dist_ref _ _ _))) | ((refine wpQuiet_guard rfl rfl rfl rfl (fun hg => ?_) (fun hg => ?_)) <;> (fail_if_success (first | guard_hyp hg : true = true | guard_hyp hg : false = false)) <;> (try simp only [decide_eq_true_eq, decide_eq_false_iff_not] at hg) <;> simp only [Act.put, List.setIfInBounds_toArray, List.set_cons_zero, List.set_cons_succ]))); all_goals ((with_reducible refine wpQuiet_nil ?_); intro zq hz))
              have hz1 := hz
              have QN := Lib.hid (PN.out.below hz1)
              have QP := Lib.hid (PP.out.below hz1)
              have m0 : zq.1.cell? ⟨w.heap.size + 1 + 1, 0, none⟩ = some (.int .i64 nx.1) := QN.out.cell 0
              have m1 : zq.1.cell? ⟨w.heap.size + 1 + 1, 1, none⟩ = some (.int .i64 nx.2) := QN.out.cell 1
              have ml := QN.out.lt
              have mf0 : zq.1.frozen? ⟨w.heap.size + 1 + 1, 0, none⟩ = false := QN.out.frozen 0
              have mf1 : zq.1.frozen? ⟨w.heap.size + 1 + 1, 1, none⟩ = false := QN.out.frozen 1
              have p2 : zq.1.cell? ⟨y.1.heap.size, 0, none⟩ = some (.int .i64 p.1) := QP.out.cell 0
              have p3 : zq.1.cell? ⟨y.1.heap.size, 1, none⟩ = some (.int .i64 p.2) := QP.out.cell 1
              have pl3 := QP.out.lt
              go_wp2
              first
                | (go_roundw; (case rel => exact ⟨k + 1, by omega, by go_num, nx, HM, HY, QN, zq, rfl⟩); (case measure => simp [intOf]; omega))
                | (refine ⟨⟨k + 1, by omega, by go_num, nx, HM, HY, QN, zq, rfl⟩, ?_⟩; simp [intOf]; omega)
          · have HY := Lib.hid (show b ∈ l.take (k + 1) → nx = b from fun hh => by have := hnew hh; simpa [c1, c2, c3] using this)
            have c5 : (T == 0) = false := by simp; exact c3
            clear hnew c1
            go_wp2_with (go_at_call 26; (with_reducible refine (Kin.callK (W := W2) (by repeat (first | with_reducible (first | exact blA | exact blB | refine blC _ ?_ | refine blD ?_ ?_ _ | refine blE ?_ | refine blF _ ?_ | refine blG ?_ _ | refine blH ?_ | refine blI ?_ ?_ _) | (simp only [World.size_alloc]; omega) | (simp <;> omega))) (turn_refI a nx p _ HT.out)).mono ?_); rintro e w' ⟨z, rfl, hz, rfl⟩; (have hyz := Lib.hid ((Below.alloc (Below.refl (Kin.wd y).heap.size (Kin.wd y)) (Nat.le_refl _) (.cells #[.int .i64 p.1, .int .i64 p.2] 23)).trans (hz.mono (by rw [World.size_alloc]; exact Nat.le_succ _))); have PN := Lib.hid (HP.out.below hyz.out); have PA := Lib.hid (HP1.out.below hyz.out); have PP := Lib.hid ((Blk.new (Kin.wd y) 23 #[.int .i64 p.1, .int .i64 p.2]).below hz); have a0 : (Kin.wd z).cell? ⟨w.heap.size, 0, none⟩ = some (.int .i64 a.1) := PA.out.cell 0; have a1 : (Kin.wd z).cell? ⟨w.heap.size, 1, none⟩ = some (.int .i64 a.2) := PA.out.cell 1; have al := PA.out.lt; have n0 : (Kin.wd z).cell? ⟨w.heap.size + 1 + 1, 0, none⟩ = some (.int .i64 nx.1) := PN.out.cell 0; have n1 : (Kin.wd z).cell? ⟨w.heap.size + 1 + 1, 1, none⟩ = some (.int .i64 nx.2) := PN.out.cell 1; have nl := PN.out.lt; have p0 : (Kin.wd z).cell? ⟨(Kin.wd y).heap.size, 0, none⟩ = some (.int .i64 p.1) := PP.out.cell 0; have p1 : (Kin.wd z).cell? ⟨(Kin.wd y).heap.size, 1, none⟩ = some (.int .i64 p.2) := PP.out.cell 1; have pl := PP.out.lt))
            ((refine wp_region_kinK (W := W2) (by kernel_rfl) (by kernel_rfl) (by repeat (first | with_reducible (first | exact blA | exact blB | refine blC _ ?_ | refine blD ?_ ?_ _ | refine blE ?_ | refine blF _ ?_ | refine blG ?_ _ | refine blH ?_ | refine blI ?_ ?_ _) | (simp only [World.size_alloc]; omega) | (simp <;> omega))) ?_); (repeat' (first | go_big_quiet_step ((go_at_call 28; exact Kin.quiet _ (dist_ref _ _ _))) | ((refine wpQuiet_guard rfl rfl rfl rfl (fun hg => ?_) (fun hg => ?_)) <;> (fail_if_success (first | guard_hyp hg : true = true | guard_hyp hg : false = false)) <;> (try simp only [decide_eq_true_eq, decide_eq_false_iff_not] at hg) <;> simp only [Act.put, List.setIfInBounds_toArray, List.set_cons_zero, List.set_cons_succ]))); all_goals ((with_reducible refine wpQuiet_nil ?_); intro zq hz))
            all_goals (try (exfalso; omega))
            have hz1 := hz
            have QN := Lib.hid (PN.out.below hz1)
            have QP := Lib.hid (PP.out.below hz1)
            have m0 : zq.1.cell? ⟨w.heap.size + 1 + 1, 0, none⟩ = some (.int .i64 nx.1) := QN.out.cell 0
            have m1 : zq.1.cell? ⟨w.heap.size + 1 + 1, 1, none⟩ = some (.int .i64 nx.2) := QN.out.cell 1
            have ml := QN.out.lt
            have mf0 : zq.1.frozen? ⟨w.heap.size + 1 + 1, 0, none⟩ = false := QN.out.frozen 0
            have mf1 : zq.1.frozen? ⟨w.heap.size + 1 + 1, 1, none⟩ = false := QN.out.frozen 1
            have p2 : zq.1.cell? ⟨y.1.heap.size, 0, none⟩ = some (.int .i64 p.1) := QP.out.cell 0
            have p3 : zq.1.cell? ⟨y.1.heap.size, 1, none⟩ = some (.int .i64 p.2) := QP.out.cell 1
            have pl3 := QP.out.lt
            go_wp2
            first
              | (go_roundw; (case rel => exact ⟨k + 1, by omega, by go_num, nx, HM, HY, QN, zq, rfl⟩); (case measure => simp [intOf]; omega))
              | (refine ⟨⟨k + 1, by omega, by go_num, nx, HM, HY, QN, zq, rfl⟩, ?_⟩; simp [intOf]; omega)
    · have hkn : k = n := by omega
      subst hkn
      have HE := Lib.hid (show nx = b by
        refine HN.out ?_
        rw [List.take_of_length_le (by rw [HL.out]; exact Nat.le_refl _)]; exact HB'.out)
      have PR := Lib.hid (HB2.out.below y.2)
      have r0 : y.1.cell? ⟨w.heap.size + 1, 0, none⟩ = some (.int .i64 0) := PR.out.cell 0
      have r1 : y.1.cell? ⟨w.heap.size + 1, 1, none⟩ = some (.int .i64 0) := PR.out.cell 1
      have rf0 : y.1.frozen? ⟨w.heap.size + 1, 0, none⟩ = false := PR.out.frozen 0
      have rf1 : y.1.frozen? ⟨w.heap.size + 1, 1, none⟩ = false := PR.out.frozen 1
      have rl := PR.out.lt
      go_wp2
      ((try simp only [Exit.inBlock, Exit.then]); refine bodyPost_ret (results_cell_row rfl _ _ _ _ _ (0, 0) _ rfl ((PR.out.set_ 0 _).set_ 1 _) Try.underlying23 rfl (by kernel_rfl)) rfl ?_)
      exact ⟨by rw [HE.out]; rfl, Below.setCell (Below.setCell hHW.out (Nat.le_succ _) _) (Nat.le_succ _) _⟩
end Go.Proofs.Ytceamihampfdiaa

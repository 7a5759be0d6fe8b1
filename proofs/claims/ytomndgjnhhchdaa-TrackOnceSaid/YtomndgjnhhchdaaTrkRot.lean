/- rotated and Turned, walked. -/
import Derived.Test.YtomndgjnhhchdaaTrkKit
import Derived.Deep.RegionLaw
namespace Go.Proofs.Ytomndgjnhhchdaa
set_option linter.unusedSimpArgs false
set_option linter.unusedVariables false
set_option maxRecDepth 100000
open Go.RowKit Trk
attribute [local go_sem] Kin.cell Kin.frozen Kin.lt0 Kin.lt1 Kin.lt2 Kin.lt3
/-- what a slice's rest reads -/
theorem Rd.drop {α : Type} {k : Nat} {enc : α → List Value} {W : World} {A : Option Addr} {n c m : Nat} {xs : List α} (h : Rd k enc W (.slice A n c) xs) (hm : m ≤ n) :
    Rd k enc W (.slice (if c = m then A else A.map (fun x => x.add (m * k))) (n - m) (c - m)) (xs.drop m) := by
  obtain ⟨A', c', e, hc, ho⟩ := h
  injection e with e1 e2 e3
  subst e1 e2 e3
  refine ⟨_, _, by rw [List.length_drop], by rw [List.length_drop]; omega, ?_⟩
  by_cases hcm : c = m
  · left; exact List.drop_of_length_le (by omega)
  · rcases ho with ho | ⟨b, off, rfl, hb, hcell⟩
    · left; rw [ho]; simp
    · right
      refine ⟨b, off + m * k, by rw [if_neg hcm, Option.map_some]; unfold Addr.add; split <;> simp_all, hb, fun i x hx j u hu => ?_⟩
      rw [List.getElem?_drop] at hx
      have := hcell (m + i) x hx j u hu
      rw [Nat.add_mul] at this
      rw [show off + m * k + i * k + j = off + (m * k + i * k) + j by omega]
      exact this
set_option maxHeartbeats 4000000 in
theorem rotated_any (v : Value) (l : List Cl) (k : Nat) (w : World) (h : Rd 2 encPt w v l) (hk : k ≤ l.length) (hlen : l.length ≤ 1099511627776) :
    Calls Try.prog 47 #[v, .int .i64 k] w fun e w' => (∃ u, e = .returned u ∧ OwnC w.heap.size w' u (rotL l k)) ∧ Below w.heap.size w w' := by
  obtain ⟨A, capA, rfl, hcapA, hopA⟩ := h.open_
  have HA := Lib.hid hopA
  have HLA := Lib.hid h
  clear hopA h
  obtain ⟨n, hL⟩ : ∃ n, l.length = n := ⟨_, rfl⟩
  have HL := Lib.hid hL
  rw [hL] at hcapA HLA hlen hk ⊢
  clear hL
  obtain ⟨i0, hi0, hz0, hz1, hz2⟩ := info_parts infoCell
  have hmk : ∀ w, (Instr.makeSlice 22 (.int .i64 0) (.int .i64 (n : Int))).run Try.prog w = .ok (.slice (some ⟨w.heap.size, 0, none⟩) 0 n) (w.alloc (.cells (madeCells #[.int .i64 0, .int .i64 0] (n * 2)) 31)) := fun w => by
    have := run_make w 22 31 i0 _ Try.underlying22 hi0 hz0 .i64 .i64 0 (n : Int) (by omega) (by omega) (by rw [hz2]; omega) (by omega)
    rw [hz1] at this
    simpa [Value.cells] using this
  have hk0 : (k : Int) ≤ (n : Int) := by omega
  have hkc : k ≤ capA := by omega
  clear hi0 hz0 hz1 hz2 i0
  go_enter Try.func47, Try.ntmps47
  go_wp2
  have HO0 := Lib.hid (show ((w.alloc (.cells (madeCells #[.int .i64 0, .int .i64 0] (n * 2)) 31)).drew).ownsRow w.heap.size 31 2 (.slice (some ⟨w.heap.size, 0, none⟩) 0 n) ([] : List Cl).length (([] : List Cl).flatMap encPt) from World.ownsRow_made w _ n (Nat.le_refl _) (by unfold maxLen; omega) (size_madeCells _ _))
  have HB0 := Lib.hid (show Below w.heap.size w (w.alloc (.cells (madeCells #[.int .i64 0, .int .i64 0] (n * 2)) 31)).drew from Below.drew (Below.alloc (Below.refl _ _) (Nat.le_refl _) _))
  have HD := Lib.hid ((HLA.out.below HB0.out).drop hk)
  have HT := Lib.hid (HLA.out.take hk)
  have hdl : (l.drop k).length = n - k := by rw [List.length_drop, HL.out]
  have HLR := Lib.hid (show rotL l k = [] ++ l.drop k ++ l.take k from rfl)
  go_region_law (first
    | (skip; (refine step_app _ rfl _ _ 22 rfl encPt_len (by decide) oneP w.heap.size 31 (.agg #[.int .i64 0, .int .i64 0]) 16 infoCell rfl Try.underlying22 (u1) _ _ _ (by first | rfl | simp [Act.eval, Act.put]) (HO1.out) _ _ _ (by first | rfl | simp [Act.eval, Act.put]) (HT.out.below HBB.out) ?c1 (by decide) ?c2 ?_; (case c1 => (first | (simp only [List.length_append, List.length_cons, List.length_nil]; omega) | omega | (simp; omega))); (case c2 => exact (by repeat (first | with_reducible exact Nat.le_refl _ | assumption | with_reducible refine le_alloc ?_ _ | with_reducible refine le_drew ?_ | with_reducible refine Kin.le _ ?_ | assumption | omega | (simp only [World.size_alloc]; omega)))); intro v' w2 hown2 hg2 hbel2 hat2; skip))
    | (skip; (refine step_app _ rfl _ _ 22 rfl encPt_len (by decide) oneP w.heap.size 31 (.agg #[.int .i64 0, .int .i64 0]) 16 infoCell rfl Try.underlying22 ((.slice (some ⟨w.heap.size, 0, none⟩) 0 n)) _ _ _ (by first | rfl | simp [Act.eval, Act.put]) (HO0.out) _ _ _ (by first | rfl | simp [Act.eval, Act.put]) (HD.out) ?c1 (by decide) ?c2 ?_; (case c1 => (first | (simp only [List.length_append, List.length_cons, List.length_nil]; omega) | omega | (simp; omega))); (case c2 => exact (by repeat (first | with_reducible exact Nat.le_refl _ | assumption | with_reducible refine le_alloc ?_ _ | with_reducible refine le_drew ?_ | with_reducible refine Kin.le _ ?_ | assumption | omega | (simp only [World.size_alloc]; omega)))); intro u1 w1 hown1 hg1 hbel1 hat1; (have HO1 := Lib.hid hown1; have HBB := Lib.hid (HB0.out.trans hbel1); have hbs := HBB.out.size; clear hown1 hg1 hbel1 hat1))))
  go_wp2
  all_goals
    go_ret
    exact ⟨⟨_, rfl, by rw [HLR.out]; exact hown2⟩, HBB.out.trans hbel2⟩
set_option maxHeartbeats 4000000 in
theorem reverse_any (r : Int) (cl : Bool) (A : Option Addr) (cap : Nat) (l : List Cl) (w : World) (h : Rd 2 encPt w (.slice A l.length cap) l) :
    Calls Try.prog 28 #[tv r cl A l.length cap] w fun e w' => (∃ u, e = .returned u ∧ RdT w' u (revT ((r, cl), l))) ∧ Below w.heap.size w w' := by
  obtain ⟨n, hL⟩ : ∃ n, l.length = n := ⟨_, rfl⟩
  have HL := Lib.hid hL
  have HA := Lib.hid h
  rw [hL] at h HA ⊢
  clear h hL
  cases hv : tval ((r, cl), l)
  · have HR := Lib.hid (show revT ((r, cl), l) = ((0, false), []) by unfold revT; rw [hv]; rfl)
    go_enter Try.func28, Try.ntmps28
    go_wp2_with (go_at_call 11; (with_reducible refine (Kin.callK (W := ((w.alloc (.cells #[.int .i64 r, .bool cl, .slice A n cap] 24)).alloc (.cells #[.int .i64 0, .bool false, .slice none 0 0] 24))) (by repeat (first | with_reducible (first | exact blA | exact blB | refine blC _ ?_ | refine blD ?_ ?_ _ | refine blE ?_ | refine blF _ ?_ | refine blG ?_ _ | refine blH ?_ | refine blI ?_ ?_ _) | (simp only [World.size_alloc]; omega) | (simp <;> omega))) (validT_is r cl A cap l _ HL.out (HA.out.below (by repeat (first | with_reducible (first | exact blA | exact blB | refine blC _ ?_ | refine blD ?_ ?_ _ | refine blE ?_ | refine blF _ ?_ | refine blG ?_ _ | refine blH ?_ | refine blI ?_ ?_ _) | (simp only [World.size_alloc]; omega) | (simp <;> omega)))) hv)).mono ?_); rintro e w' ⟨z, rfl, hz, rfl⟩; (have hb := z.boxes2; have B1 := Lib.hid hb.1; have B2 := Lib.hid hb.2; have q0 : (Kin.wd z).cell? ⟨w.heap.size, 0, none⟩ = some (.int .i64 r) := B1.out.cell 0; have q1 : (Kin.wd z).cell? ⟨w.heap.size, 1, none⟩ = some (.bool cl) := B1.out.cell 1; have q2 : (Kin.wd z).cell? ⟨w.heap.size, 2, none⟩ = some (.slice A n cap) := B1.out.cell 2; have ql := B1.out.lt; have c0 : (Kin.wd z).cell? ⟨w.heap.size + 1, 0, none⟩ = some (.int .i64 0) := B2.out.cell 0; have c1 : (Kin.wd z).cell? ⟨w.heap.size + 1, 1, none⟩ = some (.bool false) := B2.out.cell 1; have c2 : (Kin.wd z).cell? ⟨w.heap.size + 1, 2, none⟩ = some (.slice none 0 0) := B2.out.cell 2; have f0 : (Kin.wd z).frozen? ⟨w.heap.size + 1, 0, none⟩ = false := B2.out.frozen 0; have f1 : (Kin.wd z).frozen? ⟨w.heap.size + 1, 1, none⟩ = false := B2.out.frozen 1; have f2 : (Kin.wd z).frozen? ⟨w.heap.size + 1, 2, none⟩ = false := B2.out.frozen 2; have cl2 := B2.out.lt; clear hb))
    ((try simp only [Exit.inBlock, Exit.then]); refine bodyPost_ret (results_cell_row rfl _ _ _ _ _ (0, 0) _ rfl (((B2.out.set_ 0 _).set_ 1 _).set_ 2 _) Try.underlying24 rfl (by kernel_rfl)) rfl ?_)
    exact ⟨⟨_, rfl, by rw [HR.out]; exact ⟨none, 0, rfl, Rd.nil⟩⟩, (by repeat (first | with_reducible (first | exact blA | exact blB | refine blC _ ?_ | refine blD ?_ ?_ _ | refine blE ?_ | refine blF _ ?_ | refine blG ?_ _ | refine blH ?_ | refine blI ?_ ?_ _) | (simp only [World.size_alloc]; omega) | (simp <;> omega)))⟩
  · obtain ⟨R, hRv⟩ : ∃ R, l.reverse = R := ⟨_, rfl⟩
    have HRV := Lib.hid hRv
    have HR := Lib.hid (show revT ((r, cl), l) = ((r, cl), R) by unfold revT; rw [hv, ← hRv]; rfl)
    clear hRv
    have hn : n ≤ 65536 := by have := (tval_len hv).2.2; have := HL.out; simp at *; omega
    go_enter Try.func28, Try.ntmps28
    go_wp2_with (go_at_call 11; (with_reducible refine (Kin.callK (W := ((w.alloc (.cells #[.int .i64 r, .bool cl, .slice A n cap] 24)).alloc (.cells #[.int .i64 0, .bool false, .slice none 0 0] 24))) (by repeat (first | with_reducible (first | exact blA | exact blB | refine blC _ ?_ | refine blD ?_ ?_ _ | refine blE ?_ | refine blF _ ?_ | refine blG ?_ _ | refine blH ?_ | refine blI ?_ ?_ _) | (simp only [World.size_alloc]; omega) | (simp <;> omega))) (validT_is r cl A cap l _ HL.out (HA.out.below (by repeat (first | with_reducible (first | exact blA | exact blB | refine blC _ ?_ | refine blD ?_ ?_ _ | refine blE ?_ | refine blF _ ?_ | refine blG ?_ _ | refine blH ?_ | refine blI ?_ ?_ _) | (simp only [World.size_alloc]; omega) | (simp <;> omega)))) hv)).mono ?_); rintro e w' ⟨z, rfl, hz, rfl⟩; (have hb := z.boxes2; have B1 := Lib.hid hb.1; have B2 := Lib.hid hb.2; have q0 : (Kin.wd z).cell? ⟨w.heap.size, 0, none⟩ = some (.int .i64 r) := B1.out.cell 0; have q1 : (Kin.wd z).cell? ⟨w.heap.size, 1, none⟩ = some (.bool cl) := B1.out.cell 1; have q2 : (Kin.wd z).cell? ⟨w.heap.size, 2, none⟩ = some (.slice A n cap) := B1.out.cell 2; have ql := B1.out.lt; have c0 : (Kin.wd z).cell? ⟨w.heap.size + 1, 0, none⟩ = some (.int .i64 0) := B2.out.cell 0; have c1 : (Kin.wd z).cell? ⟨w.heap.size + 1, 1, none⟩ = some (.bool false) := B2.out.cell 1; have c2 : (Kin.wd z).cell? ⟨w.heap.size + 1, 2, none⟩ = some (.slice none 0 0) := B2.out.cell 2; have f0 : (Kin.wd z).frozen? ⟨w.heap.size + 1, 0, none⟩ = false := B2.out.frozen 0; have f1 : (Kin.wd z).frozen? ⟨w.heap.size + 1, 1, none⟩ = false := B2.out.frozen 1; have f2 : (Kin.wd z).frozen? ⟨w.heap.size + 1, 2, none⟩ = false := B2.out.frozen 2; have cl2 := B2.out.lt; clear hb))
    have HZ := Lib.hid (show Below w.heap.size w z.1 from (by repeat (first | with_reducible (first | exact blA | exact blB | refine blC _ ?_ | refine blD ?_ ?_ _ | refine blE ?_ | refine blF _ ?_ | refine blG ?_ _ | refine blH ?_ | refine blI ?_ ?_ _) | (simp only [World.size_alloc]; omega) | (simp <;> omega))))
    refine wp_region_floatT 4 6 (fun w' => w'.cell? ⟨w.heap.size, 0, none⟩ = some (.int .i64 r) ∧ w'.cell? ⟨w.heap.size, 1, none⟩ = some (.bool cl)) (by kernel_rfl) (by kernel_rfl) (by kernel_rfl) (fun z_ => ⟨(z_.cell ql).trans q0, (z_.cell ql).trans q1⟩) ?_
    simp only [List.take_succ_cons, List.take_zero, List.drop_succ_cons, List.drop_zero]
    refine @takeS_cons _ _ _ _ _ _ _ ?_ rfl (fun w' hSw => ?_) ?_
    rotate_left
    · ((try dsimp only at hSw); obtain ⟨s0, s1⟩ := hSw; go_simp; try with_reducible rfl)
    try simp only [Act.put, List.setIfInBounds_toArray, List.set_cons_zero, List.set_cons_succ]
    refine @takeS_cons _ _ _ _ _ _ _ ?_ rfl (fun w' hSw => ?_) ?_
    rotate_left
    · ((try dsimp only at hSw); obtain ⟨s0, s1⟩ := hSw; go_simp; try with_reducible rfl)
    try simp only [Act.put, List.setIfInBounds_toArray, List.set_cons_zero, List.set_cons_succ]
    refine @takeS_cons _ _ _ _ _ _ _ ?_ rfl (fun w' hSw => ?_) ?_
    rotate_left
    · ((try dsimp only at hSw); obtain ⟨s0, s1⟩ := hSw; go_simp; try with_reducible rfl)
    try simp only [Act.put, List.setIfInBounds_toArray, List.set_cons_zero, List.set_cons_succ]
    refine @takeS_cons _ _ _ _ _ _ _ ?_ rfl (fun w' hSw => ?_) ?_
    rotate_left
    · ((try dsimp only at hSw); obtain ⟨s0, s1⟩ := hSw; go_simp; try with_reducible rfl)
    try simp only [Act.put, List.setIfInBounds_toArray, List.set_cons_zero, List.set_cons_succ]
    refine takeS_nil ?_
    ((repeat' (first | go_big_quiet_step (fail) | ((refine wpQuiet_guard rfl rfl rfl rfl (fun hg => ?_) (fun hg => ?_)) <;> (fail_if_success (first | guard_hyp hg : true = true | guard_hyp hg : false = false)) <;> (try simp only [decide_eq_true_eq, decide_eq_false_iff_not] at hg) <;> simp only [Act.put, List.setIfInBounds_toArray, List.set_cons_zero, List.set_cons_succ]))); all_goals ((with_reducible refine wpQuiet_nil ?_); intro zq))
    have HQ := Lib.hid (show Below w.heap.size w zq.1 from (by repeat (first | with_reducible (first | exact blA | exact blB | refine blC _ ?_ | refine blD ?_ ?_ _ | refine blE ?_ | refine blF _ ?_ | refine blG ?_ _ | refine blH ?_ | refine blI ?_ ?_ _) | (simp only [World.size_alloc]; omega) | (simp <;> omega))))
    intro K6 hK6
    go_simp
    (go_at_call 46; (with_reducible refine (Kin.callK (W := (Kin.wd z)) (by repeat (first | with_reducible (first | exact blA | exact blB | refine blC _ ?_ | refine blD ?_ ?_ _ | refine blE ?_ | refine blF _ ?_ | refine blG ?_ _ | refine blH ?_ | refine blI ?_ ?_ _) | (simp only [World.size_alloc]; omega) | (simp <;> omega))) (reversed_any _ l _ (HA.out.below HQ.out) (by rw [HL.out]; omega))).mono ?_); rintro e w' ⟨z3, ⟨u, rfl, hu⟩, hz3, rfl⟩; (rw [HRV.out] at hu; have HNE := Lib.hid (own_neC hu (zq.lt0 cl2)); have hrd := Rd.own encPt_len hu.own; (obtain ⟨A3, cap3, rfl, _, _⟩ := hrd.open_); have HU := Lib.hid hrd; have D2 := Lib.hid (B2.out.below z3.2); have c0 : (Kin.wd z3).cell? ⟨w.heap.size + 1, 0, none⟩ = some (.int .i64 0) := D2.out.cell 0; have c1 : (Kin.wd z3).cell? ⟨w.heap.size + 1, 1, none⟩ = some (.bool false) := D2.out.cell 1; have c2 : (Kin.wd z3).cell? ⟨w.heap.size + 1, 2, none⟩ = some (.slice none 0 0) := D2.out.cell 2; have f0 : (Kin.wd z3).frozen? ⟨w.heap.size + 1, 0, none⟩ = false := D2.out.frozen 0; have f1 : (Kin.wd z3).frozen? ⟨w.heap.size + 1, 1, none⟩ = false := D2.out.frozen 1; have f2 : (Kin.wd z3).frozen? ⟨w.heap.size + 1, 2, none⟩ = false := D2.out.frozen 2; have cl3 := D2.out.lt; clear hu hrd))
    refine hK6 _ _ (.inr ⟨(z3.cell ql).trans q0, (z3.cell ql).trans q1⟩) ?_
    intro K7 hK7
    go_simp
    refine hK7 _ _ (.inr ⟨(z3.cell ql).trans q0, (z3.cell ql).trans q1⟩) ?_
    intro K8 hK8
    go_simp
    refine hK8 _ _ (.inl rfl) ?_
    clear hK6 hK7 hK8 K6 K7 K8
    refine wpListT_nil ?_
    (try simp only [Exit.then])
    go_wp2
    ((try simp only [Exit.inBlock, Exit.then]); refine bodyPost_ret (results_cell_row rfl _ _ _ _ _ (0, 0) _ rfl (((D2.out.set_ 0 _).set_ 1 _).set_ 2 _) Try.underlying24 rfl (by kernel_rfl)) rfl ?_)
    exact ⟨⟨_, rfl, by rw [HR.out]; exact ⟨A3, cap3, rfl, rd_set3 HU.out HNE.out _ _ _⟩⟩, (by repeat (first | with_reducible (first | exact blA | exact blB | refine blC _ ?_ | refine blD ?_ ?_ _ | refine blE ?_ | refine blF _ ?_ | refine blG ?_ _ | refine blH ?_ | refine blI ?_ ?_ _) | (simp only [World.size_alloc]; omega) | (simp <;> omega)))⟩
theorem rotated_anyK (v : Value) (l : List Cl) (k : Nat) {x : Int} (w : World) (hx : x = (k : Int)) (h : Rd 2 encPt w v l) (hk : k ≤ l.length) (hlen : l.length ≤ 1099511627776) :
    Calls Try.prog 47 #[v, .int .i64 x] w fun e w' => (∃ u, e = .returned u ∧ OwnC w.heap.size w' u (rotL l k)) ∧ Below w.heap.size w w' := by subst hx; exact rotated_any v l k w h hk hlen
theorem rotL_len (l : List Cl) (k : Nat) : (rotL l k).length = l.length := by unfold rotL; rw [List.length_append, List.length_drop, List.length_take]; omega
theorem rotL_get {l : List Cl} {n k j : Nat} (hn : l.length = n) (hk : k ≤ n) (hj : j < n) : (rotL l k)[j]? = l[(k + j) % n]? := by
  unfold rotL
  by_cases h : k + j < n
  · rw [List.getElem?_append_left (by rw [List.length_drop]; omega), List.getElem?_drop, Nat.mod_eq_of_lt h]
  · rw [List.getElem?_append_right (by rw [List.length_drop]; omega), List.length_drop, hn, List.getElem?_take_of_lt (by omega)]
    have e : (k + j) % n = k + j - n := by rw [Nat.mod_eq_sub_mod (by omega), Nat.mod_eq_of_lt (by omega)]
    rw [e]; congr 1; omega
theorem turnK_val {r : Int} {cl : Bool} {l : List Cl} {i : Int} {n : Nat} (hn : l.length = n) (h0 : 0 < n) : ∃ K : Nat, turnK ((r, cl), l) i = K ∧ K ≤ n ∧ (if cl then (i.tmod (n : Int) + (n : Int)).tmod (n : Int) else 0) = (K : Int) := by
  refine ⟨turnK ((r, cl), l) i, rfl, ?_, ?_⟩
  · unfold turnK
    split
    · rw [hn]
      have h1 := Int.lt_tmod_of_pos i (show (0 : Int) < (n : Int) by omega)
      have h3 := Int.tmod_lt_of_pos (i.tmod (n : Int) + (n : Int)) (show (0 : Int) < (n : Int) by omega)
      omega
    · omega
  · unfold turnK
    cases cl
    · rfl
    · have h1 := Int.lt_tmod_of_pos i (show (0 : Int) < (n : Int) by omega)
      have h2 := Int.tmod_nonneg (n : Int) (show 0 ≤ i.tmod (n : Int) + (n : Int) by omega)
      simp only [if_true, hn]
      omega
set_option maxHeartbeats 4000000 in
theorem turned_any (r : Int) (cl : Bool) (A : Option Addr) (cap : Nat) (l : List Cl) (i : Int) (w : World) (hi : -1099511627776 ≤ i ∧ i ≤ 1099511627776) (h : Rd 2 encPt w (.slice A l.length cap) l) :
    Calls Try.prog 29 #[tv r cl A l.length cap, .int .i64 i] w fun e w' => (∃ u, e = .returned u ∧ RdT w' u (turnT ((r, cl), l) i)) ∧ Below w.heap.size w w' := by
  obtain ⟨n, hL⟩ : ∃ n, l.length = n := ⟨_, rfl⟩
  have HL := Lib.hid hL
  have HA := Lib.hid h
  rw [hL] at h HA ⊢
  clear h hL
  cases hv : tval ((r, cl), l)
  · have HR := Lib.hid (show turnT ((r, cl), l) i = ((0, false), []) by unfold turnT; rw [hv]; rfl)
    go_enter Try.func29, Try.ntmps29
    go_wp2_with (go_at_call 11; (with_reducible refine (Kin.callK (W := ((w.alloc (.cells #[.int .i64 r, .bool cl, .slice A n cap] 24)).alloc (.cells #[.int .i64 0, .bool false, .slice none 0 0] 24))) (by repeat (first | with_reducible (first | exact blA | exact blB | refine blC _ ?_ | refine blD ?_ ?_ _ | refine blE ?_ | refine blF _ ?_ | refine blG ?_ _ | refine blH ?_ | refine blI ?_ ?_ _) | (simp only [World.size_alloc]; omega) | (simp <;> omega))) (validT_is r cl A cap l _ HL.out (HA.out.below (by repeat (first | with_reducible (first | exact blA | exact blB | refine blC _ ?_ | refine blD ?_ ?_ _ | refine blE ?_ | refine blF _ ?_ | refine blG ?_ _ | refine blH ?_ | refine blI ?_ ?_ _) | (simp only [World.size_alloc]; omega) | (simp <;> omega)))) hv)).mono ?_); rintro e w' ⟨z, rfl, hz, rfl⟩; (have hb := z.boxes2; have B1 := Lib.hid hb.1; have B2 := Lib.hid hb.2; have q0 : (Kin.wd z).cell? ⟨w.heap.size, 0, none⟩ = some (.int .i64 r) := B1.out.cell 0; have q1 : (Kin.wd z).cell? ⟨w.heap.size, 1, none⟩ = some (.bool cl) := B1.out.cell 1; have q2 : (Kin.wd z).cell? ⟨w.heap.size, 2, none⟩ = some (.slice A n cap) := B1.out.cell 2; have ql := B1.out.lt; have c0 : (Kin.wd z).cell? ⟨w.heap.size + 1, 0, none⟩ = some (.int .i64 0) := B2.out.cell 0; have c1 : (Kin.wd z).cell? ⟨w.heap.size + 1, 1, none⟩ = some (.bool false) := B2.out.cell 1; have c2 : (Kin.wd z).cell? ⟨w.heap.size + 1, 2, none⟩ = some (.slice none 0 0) := B2.out.cell 2; have f0 : (Kin.wd z).frozen? ⟨w.heap.size + 1, 0, none⟩ = false := B2.out.frozen 0; have f1 : (Kin.wd z).frozen? ⟨w.heap.size + 1, 1, none⟩ = false := B2.out.frozen 1; have f2 : (Kin.wd z).frozen? ⟨w.heap.size + 1, 2, none⟩ = false := B2.out.frozen 2; have cl2 := B2.out.lt; clear hb))
    ((try simp only [Exit.inBlock, Exit.then]); refine bodyPost_ret (results_cell_row rfl _ _ _ _ _ (0, 0) _ rfl (((B2.out.set_ 0 _).set_ 1 _).set_ 2 _) Try.underlying24 rfl (by kernel_rfl)) rfl ?_)
    exact ⟨⟨_, rfl, by rw [HR.out]; exact ⟨none, 0, rfl, Rd.nil⟩⟩, (by repeat (first | with_reducible (first | exact blA | exact blB | refine blC _ ?_ | refine blD ?_ ?_ _ | refine blE ?_ | refine blF _ ?_ | refine blG ?_ _ | refine blH ?_ | refine blI ?_ ?_ _) | (simp only [World.size_alloc]; omega) | (simp <;> omega)))⟩
  · obtain ⟨R, hRv⟩ : ∃ R, rotL l (turnK ((r, cl), l) i) = R := ⟨_, rfl⟩
    have HRV := Lib.hid hRv
    have HR := Lib.hid (show turnT ((r, cl), l) i = ((r, cl), R) by unfold turnT; rw [hv, ← hRv]; rfl)
    clear hRv
    have hn : n ≤ 65536 := by have := (tval_len hv).2.2; have := HL.out; simp at *; omega
    have hn0 : 0 < n := by have := (tval_len hv).2.1; have := HL.out; simp at *; omega
    obtain ⟨K, hK, hKn, hKe⟩ := turnK_val (r := r) (cl := cl) (l := l) (i := i) HL.out hn0
    rw [hK] at HRV
    have h1 := Int.tmod_lt_of_pos i (show (0 : Int) < (n : Int) by omega)
    have h2 := Int.lt_tmod_of_pos i (show (0 : Int) < (n : Int) by omega)
    have hn1 : ¬ (n : Int) = 0 := by omega
    have hw1 : IntKind.i64.wrap (i.tmod (n : Int)) = i.tmod (n : Int) := IntWalk.i64_in _ (by omega)
    have hw2 : IntKind.i64.wrap (i.tmod (n : Int) + (n : Int)) = i.tmod (n : Int) + (n : Int) := IntWalk.i64_in _ (by omega)
    have HK := Lib.hid (And.intro hKe (And.intro h1 h2))
    clear hK
    cases cl
    · have HKK := Lib.hid (show (0 : Int) = (K : Int) from hKe)
      clear hKe h1 h2
      go_enter Try.func29, Try.ntmps29
      go_wp2_with (go_at_call 11; (with_reducible refine (Kin.callK (W := ((w.alloc (.cells #[.int .i64 r, .bool false, .slice A n cap] 24)).alloc (.cells #[.int .i64 0, .bool false, .slice none 0 0] 24))) (by repeat (first | with_reducible (first | exact blA | exact blB | refine blC _ ?_ | refine blD ?_ ?_ _ | refine blE ?_ | refine blF _ ?_ | refine blG ?_ _ | refine blH ?_ | refine blI ?_ ?_ _) | (simp only [World.size_alloc]; omega) | (simp <;> omega))) (validT_is r false A cap l _ HL.out (HA.out.below (by repeat (first | with_reducible (first | exact blA | exact blB | refine blC _ ?_ | refine blD ?_ ?_ _ | refine blE ?_ | refine blF _ ?_ | refine blG ?_ _ | refine blH ?_ | refine blI ?_ ?_ _) | (simp only [World.size_alloc]; omega) | (simp <;> omega)))) hv)).mono ?_); rintro e w' ⟨z, rfl, hz, rfl⟩; (have hb := z.boxes2; have B1 := Lib.hid hb.1; have B2 := Lib.hid hb.2; have q0 : (Kin.wd z).cell? ⟨w.heap.size, 0, none⟩ = some (.int .i64 r) := B1.out.cell 0; have q1 : (Kin.wd z).cell? ⟨w.heap.size, 1, none⟩ = some (.bool false) := B1.out.cell 1; have q2 : (Kin.wd z).cell? ⟨w.heap.size, 2, none⟩ = some (.slice A n cap) := B1.out.cell 2; have ql := B1.out.lt; have c0 : (Kin.wd z).cell? ⟨w.heap.size + 1, 0, none⟩ = some (.int .i64 0) := B2.out.cell 0; have c1 : (Kin.wd z).cell? ⟨w.heap.size + 1, 1, none⟩ = some (.bool false) := B2.out.cell 1; have c2 : (Kin.wd z).cell? ⟨w.heap.size + 1, 2, none⟩ = some (.slice none 0 0) := B2.out.cell 2; have f0 : (Kin.wd z).frozen? ⟨w.heap.size + 1, 0, none⟩ = false := B2.out.frozen 0; have f1 : (Kin.wd z).frozen? ⟨w.heap.size + 1, 1, none⟩ = false := B2.out.frozen 1; have f2 : (Kin.wd z).frozen? ⟨w.heap.size + 1, 2, none⟩ = false := B2.out.frozen 2; have cl2 := B2.out.lt; clear hb))
      have HZ := Lib.hid (show Below w.heap.size w z.1 from (by repeat (first | with_reducible (first | exact blA | exact blB | refine blC _ ?_ | refine blD ?_ ?_ _ | refine blE ?_ | refine blF _ ?_ | refine blG ?_ _ | refine blH ?_ | refine blI ?_ ?_ _) | (simp only [World.size_alloc]; omega) | (simp <;> omega))))
      refine wp_region_floatT 4 7 (fun w' => w'.cell? ⟨w.heap.size, 0, none⟩ = some (.int .i64 r) ∧ w'.cell? ⟨w.heap.size, 1, none⟩ = some (.bool false)) (by kernel_rfl) (by kernel_rfl) (by kernel_rfl) (fun z_ => ⟨(z_.cell ql).trans q0, (z_.cell ql).trans q1⟩) ?_
      simp only [List.take_succ_cons, List.take_zero, List.drop_succ_cons, List.drop_zero]
      refine @takeS_cons _ _ _ _ _ _ _ ?_ rfl (fun w' hSw => ?_) ?_
      rotate_left
      · ((try dsimp only at hSw); obtain ⟨s0, s1⟩ := hSw; go_simp; try with_reducible rfl)
      try simp only [Act.put, List.setIfInBounds_toArray, List.set_cons_zero, List.set_cons_succ]
      refine @takeS_cons _ _ _ _ _ _ _ ?_ rfl (fun w' hSw => ?_) ?_
      rotate_left
      · ((try dsimp only at hSw); obtain ⟨s0, s1⟩ := hSw; go_simp; try with_reducible rfl)
      try simp only [Act.put, List.setIfInBounds_toArray, List.set_cons_zero, List.set_cons_succ]
      refine @takeS_cons _ _ _ _ _ _ _ ?_ rfl (fun w' hSw => ?_) ?_
      rotate_left
      · ((try dsimp only at hSw); obtain ⟨s0, s1⟩ := hSw; go_simp; try with_reducible rfl)
      try simp only [Act.put, List.setIfInBounds_toArray, List.set_cons_zero, List.set_cons_succ]
      refine @takeS_cons _ _ _ _ _ _ _ ?_ rfl (fun w' hSw => ?_) ?_
      rotate_left
      · ((try dsimp only at hSw); obtain ⟨s0, s1⟩ := hSw; go_simp; try with_reducible rfl)
      try simp only [Act.put, List.setIfInBounds_toArray, List.set_cons_zero, List.set_cons_succ]
      refine takeS_nil ?_
      ((repeat' (first | go_big_quiet_step (fail) | ((refine wpQuiet_guard rfl rfl rfl rfl (fun hg => ?_) (fun hg => ?_)) <;> (fail_if_success (first | guard_hyp hg : true = true | guard_hyp hg : false = false)) <;> (try simp only [decide_eq_true_eq, decide_eq_false_iff_not] at hg) <;> simp only [Act.put, List.setIfInBounds_toArray, List.set_cons_zero, List.set_cons_succ]))); all_goals ((with_reducible refine wpQuiet_nil ?_); intro zq))
      have HQ := Lib.hid (show Below w.heap.size w zq.1 from (by repeat (first | with_reducible (first | exact blA | exact blB | refine blC _ ?_ | refine blD ?_ ?_ _ | refine blE ?_ | refine blF _ ?_ | refine blG ?_ _ | refine blH ?_ | refine blI ?_ ?_ _) | (simp only [World.size_alloc]; omega) | (simp <;> omega))))
      intro K7 hK7
      go_simp
      (go_at_call 47; (with_reducible refine (Kin.callK (W := (Kin.wd z)) (by repeat (first | with_reducible (first | exact blA | exact blB | refine blC _ ?_ | refine blD ?_ ?_ _ | refine blE ?_ | refine blF _ ?_ | refine blG ?_ _ | refine blH ?_ | refine blI ?_ ?_ _) | (simp only [World.size_alloc]; omega) | (simp <;> omega))) (rotated_anyK _ l K _ HKK.out (HA.out.below HQ.out) (by rw [HL.out]; omega) (by rw [HL.out]; omega))).mono ?_); rintro e w' ⟨z3, ⟨u, rfl, hu⟩, hz3, rfl⟩; (rw [HRV.out] at hu; have HNE := Lib.hid (own_neC hu (zq.lt0 cl2)); have hrd := Rd.own encPt_len hu.own; (obtain ⟨A3, cap3, rfl, _, _⟩ := hrd.open_); have HU := Lib.hid hrd; have D2 := Lib.hid (B2.out.below z3.2); have c0 : (Kin.wd z3).cell? ⟨w.heap.size + 1, 0, none⟩ = some (.int .i64 0) := D2.out.cell 0; have c1 : (Kin.wd z3).cell? ⟨w.heap.size + 1, 1, none⟩ = some (.bool false) := D2.out.cell 1; have c2 : (Kin.wd z3).cell? ⟨w.heap.size + 1, 2, none⟩ = some (.slice none 0 0) := D2.out.cell 2; have f0 : (Kin.wd z3).frozen? ⟨w.heap.size + 1, 0, none⟩ = false := D2.out.frozen 0; have f1 : (Kin.wd z3).frozen? ⟨w.heap.size + 1, 1, none⟩ = false := D2.out.frozen 1; have f2 : (Kin.wd z3).frozen? ⟨w.heap.size + 1, 2, none⟩ = false := D2.out.frozen 2; have cl3 := D2.out.lt; clear hu hrd))
      refine hK7 _ _ (.inr ⟨(z3.cell ql).trans q0, (z3.cell ql).trans q1⟩) ?_
      intro K8 hK8
      go_simp
      refine hK8 _ _ (.inr ⟨(z3.cell ql).trans q0, (z3.cell ql).trans q1⟩) ?_
      intro K9 hK9
      go_simp
      refine hK9 _ _ (.inl rfl) ?_
      clear hK7 hK8 hK9 K7 K8 K9
      refine wpListT_nil ?_
      (try simp only [Exit.then])
      go_wp2
      ((try simp only [Exit.inBlock, Exit.then]); refine bodyPost_ret (results_cell_row rfl _ _ _ _ _ (0, 0) _ rfl (((D2.out.set_ 0 _).set_ 1 _).set_ 2 _) Try.underlying24 rfl (by kernel_rfl)) rfl ?_)
      exact ⟨⟨_, rfl, by rw [HR.out]; exact ⟨A3, cap3, rfl, rd_set3 HU.out HNE.out _ _ _⟩⟩, (by repeat (first | with_reducible (first | exact blA | exact blB | refine blC _ ?_ | refine blD ?_ ?_ _ | refine blE ?_ | refine blF _ ?_ | refine blG ?_ _ | refine blH ?_ | refine blI ?_ ?_ _) | (simp only [World.size_alloc]; omega) | (simp <;> omega)))⟩
    · have HKK := Lib.hid (show (i.tmod (n : Int) + (n : Int)).tmod (n : Int) = (K : Int) from hKe)
      have hn2 : ((n : Int) == 0) = false := by simp; omega
      clear hKe h1 h2
      go_enter Try.func29, Try.ntmps29
      go_wp2_with (go_at_call 11; (with_reducible refine (Kin.callK (W := ((w.alloc (.cells #[.int .i64 r, .bool true, .slice A n cap] 24)).alloc (.cells #[.int .i64 0, .bool false, .slice none 0 0] 24))) (by repeat (first | with_reducible (first | exact blA | exact blB | refine blC _ ?_ | refine blD ?_ ?_ _ | refine blE ?_ | refine blF _ ?_ | refine blG ?_ _ | refine blH ?_ | refine blI ?_ ?_ _) | (simp only [World.size_alloc]; omega) | (simp <;> omega))) (validT_is r true A cap l _ HL.out (HA.out.below (by repeat (first | with_reducible (first | exact blA | exact blB | refine blC _ ?_ | refine blD ?_ ?_ _ | refine blE ?_ | refine blF _ ?_ | refine blG ?_ _ | refine blH ?_ | refine blI ?_ ?_ _) | (simp only [World.size_alloc]; omega) | (simp <;> omega)))) hv)).mono ?_); rintro e w' ⟨z, rfl, hz, rfl⟩; (have hb := z.boxes2; have B1 := Lib.hid hb.1; have B2 := Lib.hid hb.2; have q0 : (Kin.wd z).cell? ⟨w.heap.size, 0, none⟩ = some (.int .i64 r) := B1.out.cell 0; have q1 : (Kin.wd z).cell? ⟨w.heap.size, 1, none⟩ = some (.bool true) := B1.out.cell 1; have q2 : (Kin.wd z).cell? ⟨w.heap.size, 2, none⟩ = some (.slice A n cap) := B1.out.cell 2; have ql := B1.out.lt; have c0 : (Kin.wd z).cell? ⟨w.heap.size + 1, 0, none⟩ = some (.int .i64 0) := B2.out.cell 0; have c1 : (Kin.wd z).cell? ⟨w.heap.size + 1, 1, none⟩ = some (.bool false) := B2.out.cell 1; have c2 : (Kin.wd z).cell? ⟨w.heap.size + 1, 2, none⟩ = some (.slice none 0 0) := B2.out.cell 2; have f0 : (Kin.wd z).frozen? ⟨w.heap.size + 1, 0, none⟩ = false := B2.out.frozen 0; have f1 : (Kin.wd z).frozen? ⟨w.heap.size + 1, 1, none⟩ = false := B2.out.frozen 1; have f2 : (Kin.wd z).frozen? ⟨w.heap.size + 1, 2, none⟩ = false := B2.out.frozen 2; have cl2 := B2.out.lt; clear hb))
      have HZ := Lib.hid (show Below w.heap.size w z.1 from (by repeat (first | with_reducible (first | exact blA | exact blB | refine blC _ ?_ | refine blD ?_ ?_ _ | refine blE ?_ | refine blF _ ?_ | refine blG ?_ _ | refine blH ?_ | refine blI ?_ ?_ _) | (simp only [World.size_alloc]; omega) | (simp <;> omega))))
      refine wp_region_floatT 4 7 (fun w' => w'.cell? ⟨w.heap.size, 0, none⟩ = some (.int .i64 r) ∧ w'.cell? ⟨w.heap.size, 1, none⟩ = some (.bool true)) (by kernel_rfl) (by kernel_rfl) (by kernel_rfl) (fun z_ => ⟨(z_.cell ql).trans q0, (z_.cell ql).trans q1⟩) ?_
      simp only [List.take_succ_cons, List.take_zero, List.drop_succ_cons, List.drop_zero]
      refine @takeS_cons _ _ _ _ _ _ _ ?_ rfl (fun w' hSw => ?_) ?_
      rotate_left
      · ((try dsimp only at hSw); obtain ⟨s0, s1⟩ := hSw; go_simp; try with_reducible rfl)
      try simp only [Act.put, List.setIfInBounds_toArray, List.set_cons_zero, List.set_cons_succ]
      refine @takeS_cons _ _ _ _ _ _ _ ?_ rfl (fun w' hSw => ?_) ?_
      rotate_left
      · ((try dsimp only at hSw); obtain ⟨s0, s1⟩ := hSw; go_simp; try with_reducible rfl)
      try simp only [Act.put, List.setIfInBounds_toArray, List.set_cons_zero, List.set_cons_succ]
      refine @takeS_cons _ _ _ _ _ _ _ ?_ rfl (fun w' hSw => ?_) ?_
      rotate_left
      · ((try dsimp only at hSw); obtain ⟨s0, s1⟩ := hSw; go_simp; try with_reducible rfl)
      try simp only [Act.put, List.setIfInBounds_toArray, List.set_cons_zero, List.set_cons_succ]
      refine @takeS_cons _ _ _ _ _ _ _ ?_ rfl (fun w' hSw => ?_) ?_
      rotate_left
      · ((try dsimp only at hSw); obtain ⟨s0, s1⟩ := hSw; go_simp; try with_reducible rfl)
      try simp only [Act.put, List.setIfInBounds_toArray, List.set_cons_zero, List.set_cons_succ]
      refine takeS_nil ?_
      ((repeat' (first | go_big_quiet_step (fail) | ((refine wpQuiet_guard rfl rfl rfl rfl (fun hg => ?_) (fun hg => ?_)) <;> (fail_if_success (first | guard_hyp hg : true = true | guard_hyp hg : false = false)) <;> (try simp only [decide_eq_true_eq, decide_eq_false_iff_not] at hg) <;> simp only [Act.put, List.setIfInBounds_toArray, List.set_cons_zero, List.set_cons_succ]))); all_goals ((with_reducible refine wpQuiet_nil ?_); intro zq))
      have HQ := Lib.hid (show Below w.heap.size w zq.1 from (by repeat (first | with_reducible (first | exact blA | exact blB | refine blC _ ?_ | refine blD ?_ ?_ _ | refine blE ?_ | refine blF _ ?_ | refine blG ?_ _ | refine blH ?_ | refine blI ?_ ?_ _) | (simp only [World.size_alloc]; omega) | (simp <;> omega))))
      intro K7 hK7
      go_simp
      (go_at_call 47; (with_reducible refine (Kin.callK (W := (Kin.wd z)) (by repeat (first | with_reducible (first | exact blA | exact blB | refine blC _ ?_ | refine blD ?_ ?_ _ | refine blE ?_ | refine blF _ ?_ | refine blG ?_ _ | refine blH ?_ | refine blI ?_ ?_ _) | (simp only [World.size_alloc]; omega) | (simp <;> omega))) (rotated_anyK _ l K _ HKK.out (HA.out.below HQ.out) (by rw [HL.out]; omega) (by rw [HL.out]; omega))).mono ?_); rintro e w' ⟨z3, ⟨u, rfl, hu⟩, hz3, rfl⟩; (rw [HRV.out] at hu; have HNE := Lib.hid (own_neC hu (zq.lt0 cl2)); have hrd := Rd.own encPt_len hu.own; (obtain ⟨A3, cap3, rfl, _, _⟩ := hrd.open_); have HU := Lib.hid hrd; have D2 := Lib.hid (B2.out.below z3.2); have c0 : (Kin.wd z3).cell? ⟨w.heap.size + 1, 0, none⟩ = some (.int .i64 0) := D2.out.cell 0; have c1 : (Kin.wd z3).cell? ⟨w.heap.size + 1, 1, none⟩ = some (.bool false) := D2.out.cell 1; have c2 : (Kin.wd z3).cell? ⟨w.heap.size + 1, 2, none⟩ = some (.slice none 0 0) := D2.out.cell 2; have f0 : (Kin.wd z3).frozen? ⟨w.heap.size + 1, 0, none⟩ = false := D2.out.frozen 0; have f1 : (Kin.wd z3).frozen? ⟨w.heap.size + 1, 1, none⟩ = false := D2.out.frozen 1; have f2 : (Kin.wd z3).frozen? ⟨w.heap.size + 1, 2, none⟩ = false := D2.out.frozen 2; have cl3 := D2.out.lt; clear hu hrd))
      refine hK7 _ _ (.inr ⟨(z3.cell ql).trans q0, (z3.cell ql).trans q1⟩) ?_
      intro K8 hK8
      go_simp
      refine hK8 _ _ (.inr ⟨(z3.cell ql).trans q0, (z3.cell ql).trans q1⟩) ?_
      intro K9 hK9
      go_simp
      refine hK9 _ _ (.inl rfl) ?_
      clear hK7 hK8 hK9 K7 K8 K9
      refine wpListT_nil ?_
      (try simp only [Exit.then])
      go_wp2
      ((try simp only [Exit.inBlock, Exit.then]); refine bodyPost_ret (results_cell_row rfl _ _ _ _ _ (0, 0) _ rfl (((D2.out.set_ 0 _).set_ 1 _).set_ 2 _) Try.underlying24 rfl (by kernel_rfl)) rfl ?_)
      exact ⟨⟨_, rfl, by rw [HR.out]; exact ⟨A3, cap3, rfl, rd_set3 HU.out HNE.out _ _ _⟩⟩, (by repeat (first | with_reducible (first | exact blA | exact blB | refine blC _ ?_ | refine blD ?_ ?_ _ | refine blE ?_ | refine blF _ ?_ | refine blG ?_ _ | refine blH ?_ | refine blI ?_ ?_ _) | (simp only [World.size_alloc]; omega) | (simp <;> omega)))⟩
end Go.Proofs.Ytomndgjnhhchdaa

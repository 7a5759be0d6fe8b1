/- The chapter's Hull returns the hull. -/
import Derived.Test.YtceamihampfdiaaHullRef
namespace Go.Proofs.Ytceamihampfdiaa
set_option linter.unusedSimpArgs false
set_option linter.unusedVariables false
set_option maxRecDepth 100000
open Go.RowKit Go.Proofs Planar
attribute [local go_sem] Kin.cell Kin.frozen Kin.lt0 Kin.lt1 Kin.lt2 Kin.lt3 run_mkf
theorem valid_refI {r : Bool} (p : Pt) (w : World) (h : vld p = r) : Calls Try.prog 23 #[pv p] w fun e w' => e = .returned (.bool r) ∧ Below w.heap.size w w' := by rw [← h]; exact valid_ref p w
theorem neq2_run {x y x' y' : Int} {r : Bool} (h : eq2 x y x' y' = r) : ∀ w : World, (binOp .neq 23 (.agg #[.int .i64 x, .int .i64 y]) (.agg #[.int .i64 x', .int .i64 y'])).run Try.prog w = .ok (.bool (!r)) w := fun w => by rw [run_neq2, h]
def lenOf : Value → Nat | .slice _ n _ => n | _ => 0
set_option maxHeartbeats 8000000 in
theorem hullref_any (v : Value) (l : List Pt) (w : World) (h : Rd 2 encPt w v l) (hl : l.length ≤ 100) :
    Calls Try.prog 33 #[v] w fun e w' => (∃ u, e = .returned u ∧ w'.ownsRow w.heap.size 23 2 u (hullP l).length ((hullP l).flatMap encPt)) ∧ Below w.heap.size w w' := by
  obtain ⟨A, capA, rfl, hcapA, hopA⟩ := h.open_
  have HA := Lib.hid hopA
  have HLA := Lib.hid h
  clear hopA h
  obtain ⟨n, hL⟩ : ∃ n, l.length = n := ⟨_, rfl⟩
  have HL := Lib.hid hL
  rw [hL] at hcapA HLA hl ⊢
  clear hL
  by_cases hn0 : n = 0
  · subst hn0
    have HN := Lib.hid (show hullP l = [] by
      have e : l = [] := List.eq_nil_of_length_eq_zero HL.out
      rw [e]; decide)
    go_enter Try.func33, Try.ntmps33
    go_wp2
    go_ret
    exact ⟨⟨_, rfl, by rw [HN.out]; exact World.ownsRow_nil _ _ _ _⟩, (by repeat (first | with_reducible (first | exact blA | exact blB | refine blC _ ?_ | refine blD ?_ ?_ _ | refine blE ?_ | refine blF _ ?_ | refine blG ?_ _ | refine blH ?_ | refine blI ?_ ?_ _) | (simp only [World.size_alloc]; omega) | (simp <;> omega)))⟩
  have hn1 : 0 < n := by omega
  have hn2 : ((n : Int) == 0) = false := by simp; omega
  obtain ⟨c, hc⟩ : ∃ el_, (l)[0]? = some el_ := ⟨_, List.getElem?_eq_getElem (by first | exact (by rw [HL.out]; exact hn1) | omega)⟩
  obtain ⟨bA, offA, rfl, hbA, hcA⟩ := HA.out (0) _ hc
  have c_0 : w.cell? ⟨bA, offA + 0 * 2, none⟩ = some (.int .i64 c.1) := by exact hcA (0) _ hc 0 _ rfl
  have c_1 : w.cell? ⟨bA, offA + 0 * 2 + 1, none⟩ = some (.int .i64 c.2) := by exact hcA (0) _ hc 1 _ rfl
  have hbA2 : bA < w.heap.size + 1 := by omega
  have HAc := Lib.hid hcA
  have Hc := Lib.hid hc
  clear hc hcA
  have c0 : w.cell? ⟨bA, offA, none⟩ = some (.int .i64 c.1) := by simpa using c_0
  have c1 : w.cell? ⟨bA, offA + 1, none⟩ = some (.int .i64 c.2) := by simpa using c_1
  clear c_0 c_1
  go_enter Try.func33, Try.ntmps33
  go_wp2
  go_loopw [4] (fun i wr => ∃ k : Nat, k ≤ n ∧ i = .int .i64 k ∧ ∃ f : Pt, Hid (f ∈ l) ∧ Hid (∀ p ∈ l.take k, vld p = true ∧ ¬ lx p f) ∧ Hid (Blk wr w.heap.size 23 #[.int .i64 f.1, .int .i64 f.2]) ∧ ∃ y : Kin w, y.1 = wr) (fun i _ => n - (intOf i).toNat)
  case atStart => exact ⟨0, Nat.zero_le _, rfl, c, Lib.hid (List.mem_of_getElem? Hc.out), Lib.hid (fun p hp => by simp at hp), Lib.hid (Blk.new _ _ _), ⟨World.alloc _ _, (by repeat (first | with_reducible (first | exact blA | exact blB | refine blC _ ?_ | refine blD ?_ ?_ _ | refine blE ?_ | refine blF _ ?_ | refine blG ?_ _ | refine blH ?_ | refine blI ?_ ?_ _) | (simp only [World.size_alloc]; omega) | (simp <;> omega)))⟩, rfl⟩
  case round =>
    obtain ⟨k, hk, rfl, f, HM, HF, HP, y, rfl⟩ := hrel
    have n0 : y.1.cell? ⟨w.heap.size, 0, none⟩ = some (.int .i64 f.1) := HP.out.cell 0
    have n1 : y.1.cell? ⟨w.heap.size, 1, none⟩ = some (.int .i64 f.2) := HP.out.cell 1
    have nl := HP.out.lt
    have nf0 : y.1.frozen? ⟨w.heap.size, 0, none⟩ = false := HP.out.frozen 0
    have nf1 : y.1.frozen? ⟨w.heap.size, 1, none⟩ = false := HP.out.frozen 1
    by_cases hlt : k < n
    · obtain ⟨p, hp⟩ : ∃ p, l[k]? = some p := ⟨_, List.getElem?_eq_getElem (by rw [HL.out]; exact hlt)⟩
      have g0 : w.cell? ⟨bA, offA + k * 2, none⟩ = some (.int .i64 p.1) := HAc.out k p hp 0 _ rfl
      have g1 : w.cell? ⟨bA, offA + k * 2 + 1, none⟩ = some (.int .i64 p.2) := HAc.out k p hp 1 _ rfl
      have HX := Lib.hid (List.mem_of_getElem? hp)
      have HTK := Lib.hid (show l.take (k + 1) = l.take k ++ [p] by rw [List.take_add_one, hp]; rfl)
      clear hp
      cases hvp : vld p
      · have HN := Lib.hid (hullP_bad HX.out hvp)
        go_wp2_with (go_at_call 23; (with_reducible refine (Kin.callK (W := w) (by repeat (first | with_reducible (first | exact blA | exact blB | refine blC _ ?_ | refine blD ?_ ?_ _ | refine blE ?_ | refine blF _ ?_ | refine blG ?_ _ | refine blH ?_ | refine blI ?_ ?_ _) | (simp only [World.size_alloc]; omega) | (simp <;> omega))) (valid_refI p _ hvp)).mono ?_); rintro e w' ⟨z, rfl, hz, rfl⟩)
        go_ret
        exact ⟨⟨_, rfl, by rw [HN.out]; exact World.ownsRow_nil _ _ _ _⟩, (by repeat (first | with_reducible (first | exact blA | exact blB | refine blC _ ?_ | refine blD ?_ ?_ _ | refine blE ?_ | refine blF _ ?_ | refine blG ?_ _ | refine blH ?_ | refine blI ?_ ?_ _) | (simp only [World.size_alloc]; omega) | (simp <;> omega)))⟩
      · cases hlp : lxB p f
        · go_wp2_with (go_at_call 23; (with_reducible refine (Kin.callK (W := w) (by repeat (first | with_reducible (first | exact blA | exact blB | refine blC _ ?_ | refine blD ?_ ?_ _ | refine blE ?_ | refine blF _ ?_ | refine blG ?_ _ | refine blH ?_ | refine blI ?_ ?_ _) | (simp only [World.size_alloc]; omega) | (simp <;> omega))) (valid_refI p _ hvp)).mono ?_); rintro e w' ⟨z, rfl, hz, rfl⟩; (have PZ := Lib.hid (HP.out.below hz); have n0 : (Kin.wd z).cell? ⟨w.heap.size, 0, none⟩ = some (.int .i64 f.1) := PZ.out.cell 0; have n1 : (Kin.wd z).cell? ⟨w.heap.size, 1, none⟩ = some (.int .i64 f.2) := PZ.out.cell 1; have nl := PZ.out.lt))
          ((refine wp_region_kinK (W := w) (by kernel_rfl) (by kernel_rfl) (by repeat (first | with_reducible (first | exact blA | exact blB | refine blC _ ?_ | refine blD ?_ ?_ _ | refine blE ?_ | refine blF _ ?_ | refine blG ?_ _ | refine blH ?_ | refine blI ?_ ?_ _) | (simp only [World.size_alloc]; omega) | (simp <;> omega))) ?_); (repeat' (first | go_big_quiet_step ((go_at_call 48; exact Kin.quiet _ (less_is p f _ hlp))) | ((refine wpQuiet_guard rfl rfl rfl rfl (fun hg => ?_) (fun hg => ?_)) <;> (fail_if_success (first | guard_hyp hg : true = true | guard_hyp hg : false = false)) <;> (try simp only [decide_eq_true_eq, decide_eq_false_iff_not] at hg) <;> simp only [Act.put, List.setIfInBounds_toArray, List.set_cons_zero, List.set_cons_succ]))); all_goals ((with_reducible refine wpQuiet_nil ?_); intro zq hz))
          have PQ := Lib.hid (PZ.out.below hz)
          go_wp2
          have HE := Lib.hid (show ∀ q ∈ l.take (k + 1), vld q = true ∧ ¬ lx q f from fun q hq => by
            rw [HTK.out] at hq
            rcases List.mem_append.1 hq with hq | hq
            · exact HF.out q hq
            · have : q = p := by simpa using hq
              subst this
              exact ⟨hvp, fun hh => by rw [lxB_iff.2 hh] at hlp; cases hlp⟩)
          refine ⟨⟨k + 1, by omega, by go_num, f, HM, HE, PQ, zq, rfl⟩, ?_⟩
          simp [intOf]; omega
        · go_wp2_with (go_at_call 23; (with_reducible refine (Kin.callK (W := w) (by repeat (first | with_reducible (first | exact blA | exact blB | refine blC _ ?_ | refine blD ?_ ?_ _ | refine blE ?_ | refine blF _ ?_ | refine blG ?_ _ | refine blH ?_ | refine blI ?_ ?_ _) | (simp only [World.size_alloc]; omega) | (simp <;> omega))) (valid_refI p _ hvp)).mono ?_); rintro e w' ⟨z, rfl, hz, rfl⟩; (have PZ := Lib.hid (HP.out.below hz); have n0 : (Kin.wd z).cell? ⟨w.heap.size, 0, none⟩ = some (.int .i64 f.1) := PZ.out.cell 0; have n1 : (Kin.wd z).cell? ⟨w.heap.size, 1, none⟩ = some (.int .i64 f.2) := PZ.out.cell 1; have nl := PZ.out.lt))
          ((refine wp_region_kinK (W := w) (by kernel_rfl) (by kernel_rfl) (by repeat (first | with_reducible (first | exact blA | exact blB | refine blC _ ?_ | refine blD ?_ ?_ _ | refine blE ?_ | refine blF _ ?_ | refine blG ?_ _ | refine blH ?_ | refine blI ?_ ?_ _) | (simp only [World.size_alloc]; omega) | (simp <;> omega))) ?_); (repeat' (first | go_big_quiet_step ((go_at_call 48; exact Kin.quiet _ (less_is p f _ hlp))) | ((refine wpQuiet_guard rfl rfl rfl rfl (fun hg => ?_) (fun hg => ?_)) <;> (fail_if_success (first | guard_hyp hg : true = true | guard_hyp hg : false = false)) <;> (try simp only [decide_eq_true_eq, decide_eq_false_iff_not] at hg) <;> simp only [Act.put, List.setIfInBounds_toArray, List.set_cons_zero, List.set_cons_succ]))); all_goals ((with_reducible refine wpQuiet_nil ?_); intro zq hz))
          have PQ := Lib.hid (PZ.out.below hz)
          have m0 : zq.1.cell? ⟨w.heap.size, 0, none⟩ = some (.int .i64 f.1) := PQ.out.cell 0
          have m1 : zq.1.cell? ⟨w.heap.size, 1, none⟩ = some (.int .i64 f.2) := PQ.out.cell 1
          have ml := PQ.out.lt
          have mf0 : zq.1.frozen? ⟨w.heap.size, 0, none⟩ = false := PQ.out.frozen 0
          have mf1 : zq.1.frozen? ⟨w.heap.size, 1, none⟩ = false := PQ.out.frozen 1
          have HE := Lib.hid (show ∀ q ∈ l.take (k + 1), vld q = true ∧ ¬ lx q p from fun q hq => by
            rw [HTK.out] at hq
            rcases List.mem_append.1 hq with hq | hq
            · exact ⟨(HF.out q hq).1, fun hh => (HF.out q hq).2 (lx_trans hh (lxB_iff.1 hlp))⟩
            · have : q = p := by simpa using hq
              subst this
              exact ⟨hvp, lx_irr _⟩)
          go_wp2
          first
            | (go_roundw; (case rel => exact ⟨k + 1, by omega, by go_num, p, HX, HE, Lib.hid ((PQ.out.set_ 0 _).set_ 1 _), ⟨_, Below.setCell (Below.setCell zq.2 (Nat.le_refl _) _) (Nat.le_refl _) _⟩, rfl⟩); (case measure => simp [intOf]; omega))
            | (refine ⟨⟨k + 1, by omega, by go_num, p, HX, HE, Lib.hid ((PQ.out.set_ 0 _).set_ 1 _), ⟨_, Below.setCell (Below.setCell zq.2 (Nat.le_refl _) _) (Nat.le_refl _) _⟩, rfl⟩, ?_⟩; simp [intOf]; omega)
    · have hkn : k = n := by omega
      subst hkn
      have hall : ∀ p ∈ l, vld p = true ∧ ¬ lx p f := by have := HF.out; rwa [List.take_of_length_le (by rw [HL.out]; exact Nat.le_refl _)] at this
      have hll : l.length ≤ 100 := by rw [HL.out]; exact hl
      have hva : ∀ p ∈ l, vld p = true := fun p hp => (hall p hp).1
      obtain ⟨N, hN⟩ : ∃ N, (hullP l).length = N := ⟨_, rfl⟩
      have hN0 : 0 < N := by
        have := hullP_zero hva hll
        have h1 := HL.out
        omega
      have hNl : N ≤ 200 := by rw [← hN]; exact hullP_len hll
      have hf0 : (hullP l)[0]? = some f := by
        obtain ⟨o, ho⟩ : ∃ o, (hullP l)[0]? = some o := ⟨_, List.getElem?_eq_getElem (by omega)⟩
        have hol := (hullP_mem (List.mem_of_getElem? ho)).1
        obtain ⟨b', hb'⟩ : ∃ b', (hullP l)[(0 + 1) % N]? = some b' := ⟨_, List.getElem?_eq_getElem (by rw [hN]; exact Nat.mod_lt _ hN0)⟩
        have h4 := (holds_facts hva hll hN ho hb' ho).2.2.2.1
        rcases lx_tri o f with h5 | h5 | h5
        · exact absurd h5 (hall o hol).2
        · rw [← h5]; exact ho
        · exact absurd h5 (h4 f HM.out)
      have HH0 := Lib.hid hf0
      have HN := Lib.hid hN
      have HFO := Lib.hid (fun i a b ha hb => hull_fol hva hll (i := i) (a := a) (b := b) hN ha hb)
      have HNE := Lib.hid (fun k x (hk : 0 < k) hx => hullP_head_ne hva hll (x := x) hk hf0 hx)
      obtain ⟨b1, hb1⟩ : ∃ b1, (hullP l)[(0 + 1) % N]? = some b1 := ⟨_, List.getElem?_eq_getElem (by rw [hN]; exact Nat.mod_lt _ hN0)⟩
      have HB1 := Lib.hid hb1
      have HS1 := Lib.hid (HFO.out 0 f b1 hf0 hb1)
      clear hall hva hf0 hN hb1 HF
      have lyw : w.heap.size ≤ y.1.heap.size := y.2.size
      go_wp2_with (go_at_call 49; (with_reducible refine (Kin.callK (W := (Kin.wd y)) (by repeat (first | with_reducible (first | exact blA | exact blB | refine blC _ ?_ | refine blD ?_ ?_ _ | refine blE ?_ | refine blF _ ?_ | refine blG ?_ _ | refine blH ?_ | refine blI ?_ ?_ _) | (simp only [World.size_alloc]; omega) | (simp <;> omega))) (following_any _ l f b1 _ (HLA.out.below (by repeat (first | with_reducible (first | exact blA | exact blB | refine blC _ ?_ | refine blD ?_ ?_ _ | refine blE ?_ | refine blF _ ?_ | refine blG ?_ _ | refine blH ?_ | refine blI ?_ ?_ _) | (simp only [World.size_alloc]; omega) | (simp <;> omega)))) (by omega) HS1.out.1 HS1.out.2.1 HS1.out.2.2)).mono ?_); rintro e w' ⟨z, rfl, hz, rfl⟩; (have HO1 := Lib.hid (own_below (own_made (Kin.wd y) encPt_len (Kin.wd y).heap.size 23 [f] #[.int .i64 f.1, .int .i64 f.2] rfl (Nat.le_refl _) (by unfold maxLen; simp)) hz); have PF := Lib.hid (HP.out.below ((Below.alloc (Below.refl (Kin.wd y).heap.size (Kin.wd y)) (Nat.le_refl _) (.cells #[.int .i64 f.1, .int .i64 f.2] 23)).trans (hz.mono (by rw [World.size_alloc]; exact Nat.le_succ _))))))
      go_loopw [5, 6] (fun o at_ wr => ∃ k : Nat, 1 ≤ k ∧ k ≤ N ∧ ∃ (G2 : Nat) (q : Pt), at_ = .pointer (some ⟨G2, 0, none⟩) ∧ Hid ((hullP l)[k % N]? = some q) ∧ Hid (Blk wr G2 23 #[.int .i64 q.1, .int .i64 q.2]) ∧ Hid (∀ b, o.ownBlock = some b → b < G2) ∧ Hid (y.1.heap.size ≤ G2) ∧ Hid (wr.ownsRow y.1.heap.size 23 2 o ((hullP l).take k).length (((hullP l).take k).flatMap encPt)) ∧ ∃ z : Kin y.1, z.1 = wr) (fun o _ _ => N - (lenOf o))
      case atStart =>
        refine ⟨1, Nat.le_refl _, hN0, z.1.heap.size, b1, rfl, HB1, Lib.hid (Blk.new _ _ _), Lib.hid (fun b hb => (HO1.out.lt b hb).2), Lib.hid z.2.size, Lib.hid ?_, ⟨World.alloc _ _, (by repeat (first | with_reducible (first | exact blA | exact blB | refine blC _ ?_ | refine blD ?_ ?_ _ | refine blE ?_ | refine blF _ ?_ | refine blG ?_ _ | refine blH ?_ | refine blI ?_ ?_ _) | (simp only [World.size_alloc]; omega) | (simp <;> omega)))⟩, rfl⟩
        have e1 : (hullP l).take 1 = [f] := by
          have := HH0.out
          cases hh : hullP l with
          | nil => rw [hh] at this; simp at this
          | cons a r => rw [hh] at this; simp at this; rw [this]; rfl
        rw [e1]; exact HO1.out.alloc _
      case round =>
        obtain ⟨k, hk1, hkN, G2, q, rfl, HQ, HG, HLT, HGS, HO, z4, rfl⟩ := hrel
        have PF4 := Lib.hid (HP.out.below z4.2)
        have f0 : z4.1.cell? ⟨w.heap.size, 0, none⟩ = some (.int .i64 f.1) := PF4.out.cell 0
        have f1 : z4.1.cell? ⟨w.heap.size, 1, none⟩ = some (.int .i64 f.2) := PF4.out.cell 1
        have fl := PF4.out.lt
        have g0 : z4.1.cell? ⟨G2, 0, none⟩ = some (.int .i64 q.1) := HG.out.cell 0
        have g1 : z4.1.cell? ⟨G2, 1, none⟩ = some (.int .i64 q.2) := HG.out.cell 1
        have gl := HG.out.lt
        have hlv : lenOf u5 = k := by
          obtain ⟨A3, cap3, e3, _, _⟩ := (Rd.own encPt_len HO.out).open_
          rw [e3]; show ((hullP l).take k).length = k
          rw [List.length_take, HN.out]; omega
        by_cases hqf : q = f
        · have hkk : k = N := by
            rcases Nat.lt_or_ge k N with h1 | h1
            · have h2 := HQ.out
              rw [Nat.mod_eq_of_lt h1] at h2
              exact absurd hqf (HNE.out k q (by omega) h2)
            · omega
          have hre := neq2_run ((eq2_iff q f).2 hqf)
          have HF := Lib.hid (show z4.1.ownsRow y.1.heap.size 23 2 u5 (hullP l).length ((hullP l).flatMap encPt) by
            have := HO.out
            rwa [List.take_of_length_le (by rw [HN.out]; omega)] at this)
          clear hqf
          go_wp2
          go_ret
          exact ⟨⟨_, rfl, own_base HF.out lyw⟩, (by repeat (first | with_reducible (first | exact blA | exact blB | refine blC _ ?_ | refine blD ?_ ?_ _ | refine blE ?_ | refine blF _ ?_ | refine blG ?_ _ | refine blH ?_ | refine blI ?_ ?_ _) | (simp only [World.size_alloc]; omega) | (simp <;> omega)))⟩
        · have hkk : k < N := by
            rcases Nat.lt_or_ge k N with h1 | h1
            · exact h1
            · have h2 := HQ.out
              rw [show k = N by omega, Nat.mod_self, HH0.out] at h2
              injection h2 with h2
              exact absurd h2.symm hqf
          have hre := neq2_run (show eq2 q.1 q.2 f.1 f.2 = false by
            cases hh : eq2 q.1 q.2 f.1 f.2
            · rfl
            · exact absurd ((eq2_iff q f).1 hh) hqf)
          have hqk : (hullP l)[k]? = some q := by have := HQ.out; rwa [Nat.mod_eq_of_lt hkk] at this
          obtain ⟨b2, hb2⟩ : ∃ b2, (hullP l)[(k + 1) % N]? = some b2 := ⟨_, List.getElem?_eq_getElem (by rw [HN.out]; exact Nat.mod_lt _ hN0)⟩
          have HS2 := Lib.hid (HFO.out k q b2 hqk hb2)
          have HB2 := Lib.hid hb2
          have HTK := Lib.hid (show (hullP l).take (k + 1) = (hullP l).take k ++ [q] by rw [List.take_add_one, hqk]; rfl)
          have htl : ((hullP l).take k).length ≤ 200 := by rw [List.length_take]; omega
          clear hqf hqk hb2
          go_wp2_with (first
            | (at_builtin; refine wpList_app _ rfl _ _ 35 rfl encPt_len (by decide) oneP y.1.heap.size 23 (.agg #[.int .i64 0, .int .i64 0]) 16 infoPt rfl Try.underlying35 _ _ _ _ rfl (HO.out.alloc _) _ _ _ rfl (rd_one _ encPt_len _ q _ rfl) ?c1 (by decide) ?c2 ?_; (case c1 => (first | (simp only [List.length_append, List.length_cons, List.length_nil]; omega) | omega | (simp; omega))); (case c2 => exact (by repeat (first | with_reducible exact Nat.le_refl _ | assumption | with_reducible refine le_alloc ?_ _ | with_reducible refine le_drew ?_ | with_reducible refine Kin.le _ ?_ | assumption | omega | (simp only [World.size_alloc]; omega)))); intro v' w1 hown' hg hbel hat'; ((obtain ⟨y2, rfl⟩ : ∃ y2 : Kin y.1, y2.1 = w1 := ⟨⟨w1, Below.trans (by repeat (first | with_reducible (first | exact blA | exact blB | refine blC _ ?_ | refine blD ?_ ?_ _ | refine blE ?_ | refine blF _ ?_ | refine blG ?_ _ | refine blH ?_ | refine blI ?_ ?_ _) | (simp only [World.size_alloc]; omega) | (simp <;> omega))) hbel⟩, rfl⟩); have QG := Lib.hid ((HG.out.below (Below.alloc (Below.refl _ _) (Nat.le_refl _) _)).grown hg (fun e => Nat.lt_irrefl _ (HLT.out _ e.symm))); have q0 : y2.1.cell? ⟨G2, 0, none⟩ = some (.int .i64 q.1) := QG.out.cell 0; have q1 : y2.1.cell? ⟨G2, 1, none⟩ = some (.int .i64 q.2) := QG.out.cell 1; have ql := QG.out.lt; have HOO := Lib.hid hown'; clear hown' hg hbel hat'))
            | (go_at_call 49; (with_reducible refine (Kin.callK (W := (Kin.wd y)) (by repeat (first | with_reducible (first | exact blA | exact blB | refine blC _ ?_ | refine blD ?_ ?_ _ | refine blE ?_ | refine blF _ ?_ | refine blG ?_ _ | refine blH ?_ | refine blI ?_ ?_ _) | (simp only [World.size_alloc]; omega) | (simp <;> omega))) (following_any _ l q b2 _ (HLA.out.below (by repeat (first | with_reducible (first | exact blA | exact blB | refine blC _ ?_ | refine blD ?_ ?_ _ | refine blE ?_ | refine blF _ ?_ | refine blG ?_ _ | refine blH ?_ | refine blI ?_ ?_ _) | (simp only [World.size_alloc]; omega) | (simp <;> omega)))) (by omega) HS2.out.1 HS2.out.2.1 HS2.out.2.2)).mono ?_); rintro e w' ⟨z3, rfl, hz3, rfl⟩; (have RG := Lib.hid ((Blk.new (Kin.wd y2) 23 #[.int .i64 q.1, .int .i64 q.2]).below hz3); have r0 : (Kin.wd z3).cell? ⟨(Kin.wd y2).heap.size, 0, none⟩ = some (.int .i64 q.1) := RG.out.cell 0; have r1 : (Kin.wd z3).cell? ⟨(Kin.wd y2).heap.size, 1, none⟩ = some (.int .i64 q.2) := RG.out.cell 1; have rl := RG.out.lt; have rf0 : (Kin.wd z3).frozen? ⟨(Kin.wd y2).heap.size, 0, none⟩ = false := RG.out.frozen 0; have rf1 : (Kin.wd z3).frozen? ⟨(Kin.wd y2).heap.size, 1, none⟩ = false := RG.out.frozen 1)))
          have hne : v'.ownBlock ≠ some y2.1.heap.size := fun e => Nat.lt_irrefl _ (HOO.out.lt _ e).2
          have HO3 := Lib.hid (own_below (HOO.out.alloc (.cells #[.int .i64 q.1, .int .i64 q.2] 23)) hz3)
          have HFIN := Lib.hid (own_grownBy (own_grownBy HO3.out (grownBy_set (p := ⟨y2.1.heap.size, 0, none⟩) (.int .i64 b2.1)) hne) (grownBy_set (p := ⟨y2.1.heap.size, 1, none⟩) (.int .i64 b2.2)) hne)
          have HLT2 := Lib.hid (fun b hb => (HOO.out.lt b hb).2)
          go_roundw
          case rel => exact ⟨k + 1, by omega, by omega, y2.1.heap.size, b2, rfl, HB2, Lib.hid ((RG.out.set_ 0 _).set_ 1 _), HLT2, Lib.hid y2.2.size, Lib.hid (by rw [HTK.out]; exact HFIN.out), ⟨_, Below.setCell (Below.setCell z3.2 y2.2.size _) y2.2.size _⟩, rfl⟩
          case measure =>
            have h5 : lenOf v' = k + 1 := by
              obtain ⟨A3, cap3, e3, _, _⟩ := (Rd.own encPt_len HOO.out).open_
              rw [e3]; show ((hullP l).take k ++ [q]).length = k + 1
              rw [List.length_append, List.length_take, HN.out]; simp; omega
            show N - lenOf v' < N - lenOf u5
            omega
end Go.Proofs.Ytceamihampfdiaa

/- Simplify of the program: walked. -/
import Derived.Test.YteadnlodccnfcaaCtrStr
import Derived.Test.YteadnlodccnfcaaHullLib
import Derived.Test.YteadnlodccnfcaaCtrChP
namespace Go.Proofs.Yteadnlodccnfcaa
set_option linter.unusedSimpArgs false
set_option linter.unusedVariables false
set_option maxRecDepth 100000
open Go.RowKit Planar
attribute [local go_sem] Kin.cell Kin.frozen Kin.lt0 Kin.lt1 Kin.lt2 Kin.lt3 run_mkf
theorem own_shape2 {W : World} {base n size : Nat} {e : TypeId} {v : Value} {xs : List Value} (h : W.ownsRow base e size v n xs) : (v = .slice none 0 0 ∧ n = 0) ∨ ∃ (g cap : Nat), v = .slice (some ⟨g, 0, none⟩) n cap ∧ base ≤ g ∧ g < W.heap.size ∧ n ≤ cap := by
  rcases h.2 with ⟨rfl, h0⟩ | ⟨g, cap, cur, rfl, hbase, hb, hn, hm, hs, ht⟩
  · exact .inl ⟨rfl, h0⟩
  · exact .inr ⟨g, cap, rfl, hbase, (Array.getElem?_eq_some_iff.1 hb).1, hn⟩
set_option maxHeartbeats 8000000 in
theorem simplify_any (w : World) (A : Option Addr) (n c : Nat) (l : List Pt) (h : Rd 2 encPt w (.slice A n c) l) (hl : l.length ≤ 1000000) :
    Calls Try.prog 30 #[.agg #[.slice A n c]] w fun e w' => (∃ u, e = .returned (.agg #[u]) ∧ w'.ownsRow (w.heap.size + 1 + 1) 36 2 u (resP l).length ((resP l).flatMap encPt)) ∧ Below w.heap.size w w' := by
  have HLA := Lib.hid h
  obtain ⟨N, hN⟩ : ∃ N, l.length = N := ⟨_, rfl⟩
  have HN := Lib.hid hN
  rw [hN] at hl
  clear h hN
  go_enter Try.func30, Try.ntmps30
  go_wp2_with (go_at_call 46; (with_reducible refine (Kin.callK (W := w) (by repeat (first | with_reducible (first | exact blA | exact blB | refine blC _ ?_ | refine blD ?_ ?_ _ | refine blE ?_ | refine blF _ ?_ | refine blG ?_ _ | refine blH ?_ | refine blI ?_ ?_ _) | (simp only [World.size_alloc]; omega) | (simp <;> omega))) (clone_pts _ l _ (HLA.out.below (by repeat (first | with_reducible (first | exact blA | exact blB | refine blC _ ?_ | refine blD ?_ ?_ _ | refine blE ?_ | refine blF _ ?_ | refine blG ?_ _ | refine blH ?_ | refine blI ?_ ?_ _) | (simp only [World.size_alloc]; omega) | (simp <;> omega)))) (by rw [HN.out]; omega))).mono ?_); rintro e w' ⟨z1, ⟨s1, rfl, hs1⟩, hz1, rfl⟩; (have HS1 := Lib.hid hs1; have HZ1 := Lib.hid hz1; clear hs1 hz1))
  have B2 := (Blk.new (w.alloc (.cells #[.slice A n c] 42)) 42 #[.slice none 0 0]).below HZ1.out
  have O2 := HS1.out
  simp only [World.size_alloc] at B2 O2
  have HO2 := Lib.hid O2
  have HB2 := Lib.hid B2
  clear B2 O2 HS1 HZ1 HLA
  go_loopw [3, 4] (fun s i wr => ∃ (L : List Pt) (k : Nat), i = .int .i64 k ∧ Hid (k ≤ L.length ∧ L.length ≤ N ∧ simP L = simP l ∧ ∀ j, j < k → flatAt L j = false) ∧ Hid (wr.ownsRow (w.heap.size + 1 + 1) 36 2 s L.length (L.flatMap encPt)) ∧ Hid (Blk wr (w.heap.size + 1) 42 #[.slice none 0 0]) ∧ ∃ y : Kin w, y.1 = wr) (fun s i _ => lenS s * 1000002 + 1000001 - (intOf i).toNat)
  case atStart => exact ⟨l, 0, rfl, Lib.hid ⟨Nat.zero_le _, by rw [HN.out]; exact Nat.le_refl _, rfl, fun j h => absurd h (by omega)⟩, HO2, HB2, z1, rfl⟩
  case round =>
    clear HO2 HB2
    obtain ⟨L, k, rfl, HI, HO, HB, y, rfl⟩ := hrel
    obtain ⟨m, hm⟩ : ∃ m, L.length = m := ⟨_, rfl⟩
    have hk := HI.out.1
    have hmN := HI.out.2.1
    rw [hm] at hk hmN HO
    have HM := Lib.hid hm
    clear hm
    by_cases hlt : k < m
    · have hown := HO.out
      rcases own_shape2 hown with ⟨rfl, h0⟩ | ⟨g, cap, rfl, hbase, hg, hTc⟩
      · exact absurd h0 (by omega)
      have HRD := Lib.hid (Rd.own' encPt_len (by decide) hown)
      have HHB := Lib.hid hbase
      clear hown
      cases hf : flatAt L k
      · go_wp2_with (go_at_call 47; (with_reducible refine (Kin.callK (W := w) (by repeat (first | with_reducible (first | exact blA | exact blB | refine blC _ ?_ | refine blD ?_ ?_ _ | refine blE ?_ | refine blF _ ?_ | refine blG ?_ _ | refine blH ?_ | refine blI ?_ ?_ _) | (simp only [World.size_alloc]; omega) | (simp <;> omega))) (straight_any _ L k _ HRD.out (by rw [HM.out]; omega) (by rw [HM.out]; omega))).mono ?_); rintro e w' ⟨z, rfl, hz, rfl⟩; (have HZ := Lib.hid hz; clear hz))
        go_roundw
        case rel => exact ⟨L, k + 1, by go_num, Lib.hid ⟨by rw [HM.out]; omega, HI.out.2.1, HI.out.2.2.1, fun j hj => by rcases Nat.lt_or_ge j k with h | h; exact HI.out.2.2.2 j h; rw [show j = k by omega]; exact hf⟩, Lib.hid (by rw [HM.out]; exact own_below HO.out HZ.out), Lib.hid (HB.out.below HZ.out), z, rfl⟩
        case measure => simp [intOf, lenS]; omega
      · have HF := Lib.hid hf
        go_wp2_with (go_at_call 47; (with_reducible refine (Kin.callK (W := w) (by repeat (first | with_reducible (first | exact blA | exact blB | refine blC _ ?_ | refine blD ?_ ?_ _ | refine blE ?_ | refine blF _ ?_ | refine blG ?_ _ | refine blH ?_ | refine blI ?_ ?_ _) | (simp only [World.size_alloc]; omega) | (simp <;> omega))) (straight_any _ L k _ HRD.out (by rw [HM.out]; omega) (by rw [HM.out]; omega))).mono ?_); rintro e w' ⟨z, rfl, hz, rfl⟩; (have HZ := Lib.hid hz; clear hz))
        have HOZ := Lib.hid (own_below HO.out HZ.out)
        have HBZ := Lib.hid (HB.out.below HZ.out)
        have HE := Lib.hid (show simP (L.eraseIdx k) = simP l from (simP_step (by rw [HM.out]; exact hlt) HF.out HI.out.2.2.2).symm.trans HI.out.2.2.1)
        have HL2 := Lib.hid (show (L.eraseIdx k).length = m - 1 by rw [List.length_eraseIdx, if_pos (by rw [HM.out]; exact hlt), HM.out])
        go_at_call 48
        refine (delete_any z.1 (w.heap.size + 1 + 1) g m cap k L HOZ.out hlt (by omega)).mono ?_
        rintro e w5 ⟨rfl, ho5, hg5⟩
        have HB5 := Lib.hid (HBZ.out.grown hg5 (by intro e; injection e with e; have := HHB.out; omega))
        have HO5 := Lib.hid ho5
        have hb5 : Below w.heap.size w w5 := z.2.trans (grownBy_below hg5 z.2.size (by have := HHB.out; omega))
        obtain ⟨y5, rfl⟩ : ∃ y5 : Kin w, y5.1 = w5 := ⟨⟨w5, hb5⟩, rfl⟩
        clear ho5 hg5 hb5 HOZ HBZ HZ HRD HO HB
        by_cases hlast : k + 1 = m
        · have hlb : ((k : Int) == (m : Int) - 1) = true := by rw [beq_iff_eq]; omega
          go_wp2_with fail
          go_roundw
          case rel => exact ⟨L.eraseIdx k, 0, rfl, Lib.hid ⟨Nat.zero_le _, by rw [HL2.out]; omega, HE.out, fun j h => absurd h (by omega)⟩, Lib.hid (by rw [HL2.out]; exact HO5.out), HB5, y5, rfl⟩
          case measure => simp [intOf, lenS]; omega
        · have hlb : ((k : Int) == (m : Int) - 1) = false := by rw [beq_eq_false_iff_ne]; omega
          go_wp2_with fail
          go_roundw
          case rel => exact ⟨L.eraseIdx k, k - 1, by go_num, Lib.hid ⟨by rw [HL2.out]; omega, by rw [HL2.out]; omega, HE.out, fun j h => by rw [flat_keep (by rw [HM.out]; omega) (by omega)]; exact HI.out.2.2.2 j (by omega)⟩, Lib.hid (by rw [HL2.out]; exact HO5.out), HB5, y5, rfl⟩
          case measure => simp [intOf, lenS]; omega
    · have hown := HO.out
      have hkm : k = m := by omega
      subst hkm
      have b_0 : y.1.cell? ⟨w.heap.size + 1, 0, none⟩ = some (.slice none 0 0) := HB.out.cell 0
      have bf_0 : y.1.frozen? ⟨w.heap.size + 1, 0, none⟩ = false := HB.out.frozen 0
      have bl := HB.out.lt
      have HR := Lib.hid (show simP l = L from by rw [← HI.out.2.2.1]; exact simP_none (fun j hj => HI.out.2.2.2 j (by rw [HM.out] at hj; exact hj)))
      rcases own_shape2 hown with ⟨rfl, h0⟩ | ⟨g, cap, rfl, hbase, hg, hTc⟩
      · subst h0
        go_wp2_with fail
        ((try simp only [Exit.inBlock, Exit.then]); refine bodyPost_ret (results_cell_row rfl _ _ _ _ _ (0, 0) _ rfl (HB.out.set_ 0 _) Try.underlying42 rfl (by kernel_rfl)) rfl ?_)
        refine ⟨⟨_, rfl, ?_⟩, (by repeat (first | with_reducible (first | exact blA | exact blB | refine blC _ ?_ | refine blD ?_ ?_ _ | refine blE ?_ | refine blF _ ?_ | refine blG ?_ _ | refine blH ?_ | refine blI ?_ ?_ _) | (simp only [World.size_alloc]; omega) | (simp <;> omega)))⟩
        have hr : resP l = [] := by unfold resP; rw [HR.out, HM.out]; rfl
        rw [hr]
        exact World.ownsRow_nil _ _ _ _
      · by_cases h3 : k < 3
        · go_wp2_with fail
          ((try simp only [Exit.inBlock, Exit.then]); refine bodyPost_ret (results_cell_row rfl _ _ _ _ _ (0, 0) _ rfl (HB.out.set_ 0 _) Try.underlying42 rfl (by kernel_rfl)) rfl ?_)
          refine ⟨⟨_, rfl, ?_⟩, (by repeat (first | with_reducible (first | exact blA | exact blB | refine blC _ ?_ | refine blD ?_ ?_ _ | refine blE ?_ | refine blF _ ?_ | refine blG ?_ _ | refine blH ?_ | refine blI ?_ ?_ _) | (simp only [World.size_alloc]; omega) | (simp <;> omega)))⟩
          have hr : resP l = [] := by unfold resP; rw [HR.out, HM.out, if_pos h3]
          rw [hr]
          exact World.ownsRow_nil _ _ _ _
        · go_wp2_with fail
          ((try simp only [Exit.inBlock, Exit.then]); refine bodyPost_ret (results_cell_row rfl _ _ _ _ _ (0, 0) _ rfl (HB.out.set_ 0 _) Try.underlying42 rfl (by kernel_rfl)) rfl ?_)
          refine ⟨⟨_, rfl, ?_⟩, (by repeat (first | with_reducible (first | exact blA | exact blB | refine blC _ ?_ | refine blD ?_ ?_ _ | refine blE ?_ | refine blF _ ?_ | refine blG ?_ _ | refine blH ?_ | refine blI ?_ ?_ _) | (simp only [World.size_alloc]; omega) | (simp <;> omega)))⟩
          have hr : resP l = L := by unfold resP; rw [HR.out, HM.out, if_neg h3]
          rw [hr, HM.out]
          exact own_grownBy HO.out (grownBy_set (p := ⟨w.heap.size + 1, 0, none⟩) _) (by intro e; injection e with e; simp only at e; omega)
end Go.Proofs.Yteadnlodccnfcaa

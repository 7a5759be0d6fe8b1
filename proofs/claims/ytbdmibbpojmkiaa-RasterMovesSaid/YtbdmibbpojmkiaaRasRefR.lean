/- The chapter's region of polygons. -/
import Derived.Test.YtbdmibbpojmkiaaRasRef
namespace Go.Proofs.Ytbdmibbpojmkiaa
set_option linter.unusedSimpArgs false
set_option linter.unusedVariables false
set_option maxRecDepth 100000
open Go.RowKit Runs Reg Ras
attribute [local go_sem] Kin.cell Kin.frozen Kin.lt0 Kin.lt1 Kin.lt2 Kin.lt3 run_mkf
set_option maxHeartbeats 8000000 in
theorem refRaster_any (v : Value) (l : List (List P2)) (p : Int) (w : World) (h : RdPols w v l) (hf : FewP l) :
    Calls Try.prog 14 #[v, .int .i64 p] w fun e w' => (∃ A n c, e = .returned (.tuple #[.agg #[.slice A n c], .int .i64 (rasE l p)]) ∧ RdReg w' (.agg #[.slice A n c]) (rasO l p)) ∧ Below w.heap.size w w' := by
  have H := Lib.hid h
  have HF := Lib.hid hf
  by_cases hE : rasE l p = 0
  · have e0 : rasO l p = rasR l p := by unfold rasO; rw [if_pos hE]
    obtain ⟨hpi, hok⟩ := rasE_zero.1 hE
    have hp := okPitch_iff.1 hpi
    have hp2 : 32 ≤ p ∧ p ≤ 1024 := ⟨hp.1, hp.2.1⟩
    have HOK := Lib.hid hok
    have HE := Lib.hid hE
    rw [hE, e0]
    clear hE e0 hpi hok hp h hf
    go_enter Try.func14, Try.ntmps14
    go_wp2_with (first
      | (go_at_call 31; (with_reducible refine (Kin.callK (W := w.alloc (.cells #[.slice none 0 0] 32)) (by repeat (first | with_reducible (first | exact blA | exact blB | refine blC _ ?_ | refine blD ?_ ?_ _ | refine blE ?_ | refine blF _ ?_ | refine blG ?_ _ | refine blH ?_ | refine blI ?_ ?_ _) | (simp only [World.size_alloc]; omega) | (simp <;> omega))) (check19_is _ l p _ (H.out.below (by repeat (first | with_reducible (first | exact blA | exact blB | refine blC _ ?_ | refine blD ?_ ?_ _ | refine blE ?_ | refine blF _ ?_ | refine blG ?_ _ | refine blH ?_ | refine blI ?_ ?_ _) | (simp only [World.size_alloc]; omega) | (simp <;> omega)))) HF.out HE.out)).mono ?_); rintro e w' ⟨z1, rfl, hz1, rfl⟩; skip)
      | (go_at_call 32; (with_reducible refine (Kin.callK (W := w.alloc (.cells #[.slice none 0 0] 32)) (by repeat (first | with_reducible (first | exact blA | exact blB | refine blC _ ?_ | refine blD ?_ ?_ _ | refine blE ?_ | refine blF _ ?_ | refine blG ?_ _ | refine blH ?_ | refine blI ?_ ?_ _) | (simp only [World.size_alloc]; omega) | (simp <;> omega))) (far_any _ l p _ (H.out.below (by repeat (first | with_reducible (first | exact blA | exact blB | refine blC _ ?_ | refine blD ?_ ?_ _ | refine blE ?_ | refine blF _ ?_ | refine blG ?_ _ | refine blH ?_ | refine blI ?_ ?_ _) | (simp only [World.size_alloc]; omega) | (simp <;> omega)))) HF.out HOK.out hp2)).mono ?_); rintro e w' ⟨z2, ⟨M, rfl, hM, hM1, hM2⟩, hz2, rfl⟩; (have HM := Lib.hid hM; clear hM)))
    have HFIN := Lib.hid (fun (n : Nat) (hn : (n : Int) = 2 * M + 1) => cells_of (l := l) (pitch := p) (N := M) (n := n) (by omega) HM.out (by omega) (by omega) hn)
    have HML := Lib.hid (fun (n : Nat) => cellRows_len l p M n)
    have HSR := Lib.hid (fun (n : Nat) => cellRows_succ l p M n)
    obtain ⟨D, hD⟩ : ∃ D, D = (2 * M + 1).toNat := ⟨_, rfl⟩
    rw [← hD] at HML HSR
    go_loopw [8, 9] (fun o i wr => ∃ j : Nat, j ≤ D ∧ i = .int .i64 (-M + j) ∧ Hid (OwnC (w.alloc (.cells #[.slice none 0 0] 32)).heap.size wr o (cellRows l p M j)) ∧ ∃ z : Kin (w.alloc (.cells #[.slice none 0 0] 32)), z.1 = wr) (fun _ i _ => (M + 1 - intOf i).toNat)
    case atStart => exact ⟨0, by omega, by simp, OwnC.nil, z2, rfl⟩
    case round =>
      obtain ⟨j, hj, rfl, HO, z, rfl⟩ := hrel
      have hcl := HML.out j
      have hcd : j * D ≤ 4099 * 4099 := Nat.mul_le_mul (by omega) (by omega)
      by_cases hlt : j < D
      · obtain ⟨y, hy⟩ : ∃ y : Int, -M + j = y := ⟨_, rfl⟩
        have HS := Lib.hid (HSR.out j)
        rw [hy] at HS ⊢
        have hyb : -4096 ≤ y ∧ y < 4096 := by omega
        have hyM : y ≤ M := by omega
        have hyw : IntKind.i64.wrap (y + 1) = y + 1 := IntWalk.i64_in _ (by omega)
        go_wp2
        go_loopw [8, 10] (fun o i wr => ∃ k : Nat, k ≤ D ∧ i = .int .i64 (-M + k) ∧ Hid (OwnC (w.alloc (.cells #[.slice none 0 0] 32)).heap.size wr o (cellRows l p M j ++ cellRow l p M y k)) ∧ ∃ z : Kin (w.alloc (.cells #[.slice none 0 0] 32)), z.1 = wr) (fun _ i _ => (M + 1 - intOf i).toNat)
        case atStart => exact ⟨0, by omega, by simp, Lib.hid (by simpa [cellRow, upFrom] using HO.out), z, rfl⟩
        case round =>
          obtain ⟨k, hk, rfl, HO2, z9, rfl⟩ := hrel
          have hol := cellRow_len l p M y k
          by_cases hlt2 : k < D
          · obtain ⟨x, hx⟩ : ∃ x : Int, -M + k = x := ⟨_, rfl⟩
            obtain ⟨hc1, hc2⟩ := cen_is (x := x) (y := y) (p := p) (by omega) hyb hp2
            have HC1 := Lib.hid hc1
            have HC2 := Lib.hid hc2
            have HS2 := Lib.hid (cellRow_succ l p M y k)
            obtain ⟨b, hb⟩ : ∃ b, inP l p x y = b := ⟨_, rfl⟩
            have HB := Lib.hid (show decide (0 < wind l (ctr x p, ctr y p)) = b from hb)
            rw [hx] at HS2 ⊢
            rw [hb] at HS2
            clear hc1 hc2 hb
            generalize hcx : (ctr x p, ctr y p) = cc at *
            clear hcx
            obtain ⟨cx, cy⟩ := cc
            have hx2 : x ≤ M := by omega
            have hxw : IntKind.i64.wrap (x + 1) = x + 1 := IntWalk.i64_in _ (by omega)
            cases b
            · go_wp2_with (first
                | (go_at_call 10; (with_reducible refine (Kin.callK (W := (w.alloc (.cells #[.slice none 0 0] 32))) (by repeat (first | with_reducible (first | exact blA | exact blB | refine blC _ ?_ | refine blD ?_ ?_ _ | refine blE ?_ | refine blF _ ?_ | refine blG ?_ _ | refine blH ?_ | refine blI ?_ ?_ _) | (simp only [World.size_alloc]; omega) | (simp <;> omega))) (refCenter_is x y p _ HC1.out)).mono ?_); rintro e w' ⟨z3, rfl, hz3, rfl⟩; skip)
                | (go_at_call 22; (with_reducible refine (Kin.callK (W := (w.alloc (.cells #[.slice none 0 0] 32))) (by repeat (first | with_reducible (first | exact blA | exact blB | refine blC _ ?_ | refine blD ?_ ?_ _ | refine blE ?_ | refine blF _ ?_ | refine blG ?_ _ | refine blH ?_ | refine blI ?_ ?_ _) | (simp only [World.size_alloc]; omega) | (simp <;> omega))) (inside17_is _ l (cx, cy) _ (H.out.below (by repeat (first | with_reducible (first | exact blA | exact blB | refine blC _ ?_ | refine blD ?_ ?_ _ | refine blE ?_ | refine blF _ ?_ | refine blG ?_ _ | refine blH ?_ | refine blI ?_ ?_ _) | (simp only [World.size_alloc]; omega) | (simp <;> omega)))) HF.out HOK.out HC2.out HB.out)).mono ?_); rintro e w' ⟨z4, rfl, hz4, rfl⟩; skip))
              go_roundw
              case rel => exact ⟨k + 1, by omega, by subst hx; go_num, Lib.hid (by rw [show cellRow l p M y (k + 1) = cellRow l p M y k by rw [HS2.out]; simp]; exact own_below (own_below HO2.out.own hz3) hz4), z4, rfl⟩
              case measure => simp [intOf]; omega
            · go_wp2_with (first
                | (go_at_call 10; (with_reducible refine (Kin.callK (W := (w.alloc (.cells #[.slice none 0 0] 32))) (by repeat (first | with_reducible (first | exact blA | exact blB | refine blC _ ?_ | refine blD ?_ ?_ _ | refine blE ?_ | refine blF _ ?_ | refine blG ?_ _ | refine blH ?_ | refine blI ?_ ?_ _) | (simp only [World.size_alloc]; omega) | (simp <;> omega))) (refCenter_is x y p _ HC1.out)).mono ?_); rintro e w' ⟨z3, rfl, hz3, rfl⟩; skip)
                | (go_at_call 22; (with_reducible refine (Kin.callK (W := (w.alloc (.cells #[.slice none 0 0] 32))) (by repeat (first | with_reducible (first | exact blA | exact blB | refine blC _ ?_ | refine blD ?_ ?_ _ | refine blE ?_ | refine blF _ ?_ | refine blG ?_ _ | refine blH ?_ | refine blI ?_ ?_ _) | (simp only [World.size_alloc]; omega) | (simp <;> omega))) (inside17_is _ l (cx, cy) _ (H.out.below (by repeat (first | with_reducible (first | exact blA | exact blB | refine blC _ ?_ | refine blD ?_ ?_ _ | refine blE ?_ | refine blF _ ?_ | refine blG ?_ _ | refine blH ?_ | refine blI ?_ ?_ _) | (simp only [World.size_alloc]; omega) | (simp <;> omega)))) HF.out HOK.out HC2.out HB.out)).mono ?_); rintro e w' ⟨z4, rfl, hz4, rfl⟩; skip)
                | (at_builtin; refine wpList_app _ rfl _ _ 68 rfl encPt_len (by decide) oneP (w.alloc (.cells #[.slice none 0 0] 32)).heap.size 23 (.agg #[.int .i64 0, .int .i64 0]) 16 infoCell rfl Try.underlying68 _ _ _ _ rfl ((own_below (own_below HO2.out.own hz3) hz4).alloc _) _ _ _ rfl (rd_one _ encPt_len 23 (x, y) _ rfl) ?c1 (by decide) ?c2 ?_; (case c1 => (first | (simp only [List.length_append, List.length_cons, List.length_nil]; omega) | omega | (simp; omega))); (case c2 => exact (by repeat (first | with_reducible exact Nat.le_refl _ | assumption | with_reducible refine le_alloc ?_ _ | with_reducible refine le_drew ?_ | with_reducible refine Kin.le _ ?_ | assumption | omega | (simp only [World.size_alloc]; omega)))); intro v' w1 hown' hg hbel hat'; (obtain ⟨yk, rfl⟩ : ∃ y : Kin (w.alloc (.cells #[.slice none 0 0] 32)), y.1 = w1 := ⟨⟨w1, Below.trans (by repeat (first | with_reducible (first | exact blA | exact blB | refine blC _ ?_ | refine blD ?_ ?_ _ | refine blE ?_ | refine blF _ ?_ | refine blG ?_ _ | refine blH ?_ | refine blI ?_ ?_ _) | (simp only [World.size_alloc]; omega) | (simp <;> omega))) hbel⟩, rfl⟩); clear hbel hg hat'))
              go_roundw
              case rel => exact ⟨k + 1, by omega, by subst hx; go_num, Lib.hid (OwnC.of (by rw [show cellRow l p M y (k + 1) = cellRow l p M y k ++ [(x, y)] by rw [HS2.out]; rfl, ← List.append_assoc]; exact hown')), yk, rfl⟩
              case measure => simp [intOf]; omega
          · have ek : k = D := by omega
            have HS3 := Lib.hid (show cellRows l p M (j + 1) = cellRows l p M j ++ cellRow l p M y k by rw [ek]; exact HS.out)
            clear ek
            go_wp2
            go_roundw
            case rel => exact ⟨j + 1, by omega, by subst hy; go_num, Lib.hid (by rw [HS3.out]; exact HO2.out), z9, rfl⟩
            case measure => simp [intOf]; omega
      · have ej : j = D := by omega
        obtain ⟨hf1, hf2⟩ := HFIN.out j (by omega)
        have HF1 := Lib.hid hf1
        have HF2 := Lib.hid hf2
        have HRD := Lib.hid (Rd.own encPt_len HO.out.own)
        clear hf1 hf2 ej
        go_wp2_with (go_at_call 33; (with_reducible refine (Kin.callK (W := (w.alloc (.cells #[.slice none 0 0] 32))) (by repeat (first | with_reducible (first | exact blA | exact blB | refine blC _ ?_ | refine blD ?_ ?_ _ | refine blE ?_ | refine blF _ ?_ | refine blG ?_ _ | refine blH ?_ | refine blI ?_ ?_ _) | (simp only [World.size_alloc]; omega) | (simp <;> omega))) (of18_is _ (cellRows l p M j) _ (HRD.out.below (by repeat (first | with_reducible (first | exact blA | exact blB | refine blC _ ?_ | refine blD ?_ ?_ _ | refine blE ?_ | refine blF _ ?_ | refine blG ?_ _ | refine blH ?_ | refine blI ?_ ?_ _) | (simp only [World.size_alloc]; omega) | (simp <;> omega)))) (by omega) HF1.out HF2.out)).mono ?_); rintro e w' ⟨z5, ⟨A, m, c, rfl, hr⟩, hz5, rfl⟩; (have HR := Lib.hid hr; have HB := Lib.hid ((Blk.new w 32 #[.slice none 0 0]).below z5.2); have q0 : (Kin.wd z5).cell? ⟨w.heap.size, 0, none⟩ = some (.slice none 0 0) := HB.out.cell 0; have qf : (Kin.wd z5).frozen? ⟨w.heap.size, 0, none⟩ = false := HB.out.frozen 0; have ql := HB.out.lt; clear hr))
        ((try simp only [Exit.inBlock, Exit.then]); refine bodyPost_ret (results_cell_t rfl _ _ (0, 0) rfl (HB.out.set_ 0 _) Try.underlying32 rfl (by kernel_rfl)) rfl ?_)
        exact ⟨⟨_, _, _, rfl, HR.out.set_ HB.out⟩, (by repeat (first | with_reducible (first | exact blA | exact blB | refine blC _ ?_ | refine blD ?_ ?_ _ | refine blE ?_ | refine blF _ ?_ | refine blG ?_ _ | refine blH ?_ | refine blI ?_ ?_ _) | (simp only [World.size_alloc]; omega) | (simp <;> omega)))⟩
  · have e0 : rasO l p = [] := by unfold rasO; rw [if_neg hE]
    rw [e0]
    clear e0
    have hbad := rasE_cases l p
    obtain ⟨N, hN⟩ : ∃ N, rasE l p = N := ⟨_, rfl⟩
    rw [hN] at hE hbad ⊢
    have hE2 : (N != 0) = true := by simpa using hE
    go_enter Try.func14, Try.ntmps14
    go_wp2_with (go_at_call 31; (with_reducible refine (Kin.callK (W := w.alloc (.cells #[.slice none 0 0] 32)) (by repeat (first | with_reducible (first | exact blA | exact blB | refine blC _ ?_ | refine blD ?_ ?_ _ | refine blE ?_ | refine blF _ ?_ | refine blG ?_ _ | refine blH ?_ | refine blI ?_ ?_ _) | (simp only [World.size_alloc]; omega) | (simp <;> omega))) (check19_is _ l p _ (H.out.below (by repeat (first | with_reducible (first | exact blA | exact blB | refine blC _ ?_ | refine blD ?_ ?_ _ | refine blE ?_ | refine blF _ ?_ | refine blG ?_ _ | refine blH ?_ | refine blI ?_ ?_ _) | (simp only [World.size_alloc]; omega) | (simp <;> omega)))) HF.out hN)).mono ?_); rintro e w' ⟨z1, rfl, hz1, rfl⟩; skip)
    have HB := Lib.hid ((Blk.new w 32 #[.slice none 0 0]).below z1.2)
    ((try simp only [Exit.inBlock, Exit.then]); refine bodyPost_ret (results_cell_t rfl _ _ (0, 0) rfl (HB.out.set_ 0 _) Try.underlying32 rfl (by kernel_rfl)) rfl ?_)
    exact ⟨⟨_, _, _, rfl, RdReg.nil⟩, (by repeat (first | with_reducible (first | exact blA | exact blB | refine blC _ ?_ | refine blD ?_ ?_ _ | refine blE ?_ | refine blF _ ?_ | refine blG ?_ _ | refine blH ?_ | refine blI ?_ ?_ _) | (simp only [World.size_alloc]; omega) | (simp <;> omega)))⟩
end Go.Proofs.Ytbdmibbpojmkiaa

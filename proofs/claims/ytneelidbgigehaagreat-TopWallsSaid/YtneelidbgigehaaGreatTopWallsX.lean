/- Proved: TopWalls returns true for every input, and the arguments read behind the call as before. No condition. -/
import Derived.Test.YtneelidbgigehaaGreatT47
import Derived.Test.YtneelidbgigehaaGreatT48
namespace Go.Proofs.YtneelidbgigehaaGreat
set_option linter.unusedSimpArgs false
set_option linter.unusedVariables false
set_option maxRecDepth 100000
open Go.ChangeShapes Go.WideShapes Go.ChangeAt Go.RowKit Go.Joins Runs Reg Wal
open Trk (Cl Tr tval oncT)
attribute [local go_sem] Kin.cell Kin.frozen Kin.lt0 Kin.lt1 Kin.lt2 Kin.lt3 run_mkf
theorem cnt_of {rows : List Reg.Row} (hn : nearR rows = true) : cntR rows ≤ 200 := by
  unfold nearR at hn
  simp only [Bool.and_eq_true, decide_eq_true_eq] at hn
  exact hn.1.1.1.1
theorem cover_cov (v : Value) (l : List Tr) (w : World) (h : RdTrs w v l) (hl : l.length ≤ 1099511627776) (hc : (cellsT l).length ≤ 1099511627776) :
    Calls Tryz.prog 16 #[v] w fun e w' => (∃ A n c, e = .returned (.agg #[.slice A n c]) ∧ RdReg w' (.agg #[.slice A n c]) (cov l)) ∧ Below w.heap.size w w' := cover_any v l w h hl hc
theorem cntR_nil : cntR [] = 0 := by decide
theorem count18_is {n : Int} (v : Value) (rows : List Reg.Row) (w : World) (h : RdReg w v rows) (hbd : RBd rows) (hn : cntR rows = n) :
    Calls Tryz.prog 18 #[v] w fun e w' => e = .returned (.int .i64 n) ∧ Below w.heap.size w w' := by subst hn; exact count18_any v rows w h hbd
set_option maxHeartbeats 16000000 in
theorem topWalls_walk (W : World) (v : Value) (h : IsRegB W v) (vp : Value) (hvp : IsInt vp) : Calls Tryz.prog 4 #[v, vp] W fun e W' => e = .returned (.bool true) ∧ Below W.heap.size W W' := by
  obtain ⟨rows, hr, hbd⟩ := h
  obtain ⟨n, rfl, hn⟩ := hvp
  obtain ⟨s, rfl, hrs⟩ := hr
  have HR := Lib.hid hrs
  have HBD := Lib.hid hbd
  have mixed : Tryz.prog.follows .mixedOrders = true := by kernel_rfl
  by_cases hv : rvalid rows = true
  · have HVT := Lib.hid hv
    clear hrs hbd hv
    by_cases hn : nearR rows = true
    · have HNB := Lib.hid hn
      clear hn
      by_cases h0 : n < 0
      · skip
        go_enter Tryz.func4, Tryz.ntmps4
        go_wp2_with fail
        obtain ⟨W1, hW1⟩ : ∃ W1, W.alloc (.cells #[s] 24) = W1 := ⟨_, rfl⟩
        have hb1 : Below W.heap.size W W1 := hW1 ▸ (Below.refl _ _).alloc (Nat.le_refl _) _
        have hd1 : RdReg W1 (.agg #[s]) rows := ⟨_, rfl, RdN.below HR.out hb1⟩
        have B1 : Blk W1 W.heap.size 24 #[s] := hW1 ▸ Blk.new _ _ _
        have s_0 : W1.cell? ⟨W.heap.size, 0, none⟩ = some s := B1.cell 0
        have s_l := B1.lt
        have HD1 := Lib.hid hd1
        have HB1 := Lib.hid hb1
        have HBL := Lib.hid B1
        rw [hW1]
        clear hW1 hd1 hb1 B1
        (go_at_call 5; (with_reducible refine (Kin.callK (W := W1) gRw (valid18_is _ rows _ HD1.out HBD.out HVT.out)).mono ?_); rintro e w' ⟨z1, rfl, hz1, rfl⟩; skip)
        go_wp2_with fail
        have hd2 := HD1.out.below z1.2
        (go_at_call 6; (with_reducible refine (Kin.callK (W := W1) gRw (nearby_is _ rows _ hd2 HBD.out HVT.out HNB.out)).mono ?_); rintro e w' ⟨z2, rfl, hz2, rfl⟩; skip)
        go_wp2_with fail
        (go_at_call 12; (with_reducible refine (Kin.callK (W := W1) gRw (filled_any _)).mono ?_); rintro e w' ⟨z9, rfl, hz9, rfl⟩; skip)
        go_wp2_with fail
        go_ret
        exact ⟨rfl, HB1.out.trans (z9.2.mono HB1.out.size)⟩
      · by_cases h8 : 8 < n
        · skip
          go_enter Tryz.func4, Tryz.ntmps4
          go_wp2_with fail
          obtain ⟨W1, hW1⟩ : ∃ W1, W.alloc (.cells #[s] 24) = W1 := ⟨_, rfl⟩
          have hb1 : Below W.heap.size W W1 := hW1 ▸ (Below.refl _ _).alloc (Nat.le_refl _) _
          have hd1 : RdReg W1 (.agg #[s]) rows := ⟨_, rfl, RdN.below HR.out hb1⟩
          have B1 : Blk W1 W.heap.size 24 #[s] := hW1 ▸ Blk.new _ _ _
          have s_0 : W1.cell? ⟨W.heap.size, 0, none⟩ = some s := B1.cell 0
          have s_l := B1.lt
          have HD1 := Lib.hid hd1
          have HB1 := Lib.hid hb1
          have HBL := Lib.hid B1
          rw [hW1]
          clear hW1 hd1 hb1 B1
          (go_at_call 5; (with_reducible refine (Kin.callK (W := W1) gRw (valid18_is _ rows _ HD1.out HBD.out HVT.out)).mono ?_); rintro e w' ⟨z1, rfl, hz1, rfl⟩; skip)
          go_wp2_with fail
          have hd2 := HD1.out.below z1.2
          (go_at_call 6; (with_reducible refine (Kin.callK (W := W1) gRw (nearby_is _ rows _ hd2 HBD.out HVT.out HNB.out)).mono ?_); rintro e w' ⟨z2, rfl, hz2, rfl⟩; skip)
          go_wp2_with fail
          (go_at_call 12; (with_reducible refine (Kin.callK (W := W1) gRw (filled_any _)).mono ?_); rintro e w' ⟨z9, rfl, hz9, rfl⟩; skip)
          go_wp2_with fail
          go_ret
          exact ⟨rfl, HB1.out.trans (z9.2.mono HB1.out.size)⟩
        · obtain ⟨m, rfl⟩ : ∃ m : Nat, n = (m : Int) := ⟨n.toNat, by omega⟩
          have hm : m ≤ 8 := by omega
          have e1 : IntKind.i64.wrap ((m : Int) + 1) = (m : Int) + 1 := IntWalk.i64_in _ (by omega)
          have HCN := Lib.hid (cnt_of HNB.out)
          go_enter Tryz.func4, Tryz.ntmps4
          go_wp2_with fail
          obtain ⟨W1, hW1⟩ : ∃ W1, W.alloc (.cells #[s] 24) = W1 := ⟨_, rfl⟩
          have hb1 : Below W.heap.size W W1 := hW1 ▸ (Below.refl _ _).alloc (Nat.le_refl _) _
          have hd1 : RdReg W1 (.agg #[s]) rows := ⟨_, rfl, RdN.below HR.out hb1⟩
          have B1 : Blk W1 W.heap.size 24 #[s] := hW1 ▸ Blk.new _ _ _
          have s_0 : W1.cell? ⟨W.heap.size, 0, none⟩ = some s := B1.cell 0
          have s_l := B1.lt
          have HD1 := Lib.hid hd1
          have HB1 := Lib.hid hb1
          have HBL := Lib.hid B1
          rw [hW1]
          clear hW1 hd1 hb1 B1
          (go_at_call 5; (with_reducible refine (Kin.callK (W := W1) gRw (valid18_is _ rows _ HD1.out HBD.out HVT.out)).mono ?_); rintro e w' ⟨z1, rfl, hz1, rfl⟩; skip)
          go_wp2_with fail
          have hd2 := HD1.out.below z1.2
          (go_at_call 6; (with_reducible refine (Kin.callK (W := W1) gRw (nearby_is _ rows _ hd2 HBD.out HVT.out HNB.out)).mono ?_); rintro e w' ⟨z2, rfl, hz2, rfl⟩; skip)
          go_wp2_with fail
          clear s_0 s_l HD1
          have hd3 : RdReg z2.1 (.agg #[s]) rows := ⟨_, rfl, RdN.below HR.out (HB1.out.trans (z2.2.mono HB1.out.size))⟩
          (go_at_call 13; (with_reducible refine (Kin.callK (W := W1) gRw (walls_any _ rows m _ hd3 HVT.out HCN.out (by omega))).mono ?_); rintro e w' ⟨z3, ⟨ua, Ax, mx, cx, alla, rfl, hwa, hua, hrx⟩, hz3, rfl⟩; skip)
          obtain ⟨W3, hW3⟩ : ∃ W_, z3.1 = W_ := ⟨_, rfl⟩
          have hbW3 := z3.2
          rw [hW3] at hua hrx hbW3 ⊢
          have HUA := Lib.hid hua
          have HRX := Lib.hid hrx
          have HWA := Lib.hid hwa
          clear hua hrx hwa hz3 hW3 hd3 hd2 hz2 hz1
          replace HBL := Lib.hid (HBL.out.below hbW3)
          replace HB1 := Lib.hid (HB1.out.trans (hbW3.mono HB1.out.size))
          clear hbW3
          have s_0 : W3.cell? ⟨W.heap.size, 0, none⟩ = some s := HBL.out.cell 0
          have s_l := HBL.out.lt
          go_wp2_with fail
          obtain ⟨W4, hW4⟩ : ∃ W_, W3.alloc (.cells #[.slice Ax mx cx] 24) = W_ := ⟨_, rfl⟩
          obtain ⟨gx, hgx⟩ : ∃ g_, W3.heap.size = g_ := ⟨_, rfl⟩
          have hbW4 : Below W3.heap.size W3 W4 := by rw [← hW4]; exact gRw
          have Hgx := Lib.hid (show Blk W4 gx 24 #[.slice Ax mx cx] from by rw [← hW4, ← hgx]; exact Blk.new _ _ _)
          replace HBL := Lib.hid (HBL.out.below hbW4)
          replace HB1 := Lib.hid (HB1.out.trans (hbW4.mono HB1.out.size))
          replace HUA := Lib.hid (RdN.below HUA.out hbW4)
          replace HRX := Lib.hid (HRX.out.below hbW4)
          rw [hW4, hgx]
          clear hW4 hgx hbW4
          clear s_0 s_l
          have hd4 : RdReg W4 (.agg #[s]) rows := ⟨_, rfl, RdN.below HR.out HB1.out⟩
          have hw2 := walls_any _ rows (m + 1) W4 hd4 HVT.out HCN.out (by omega)
          rw [show ((m + 1 : Nat) : Int) = (m : Int) + 1 from by push_cast; rfl] at hw2
          (go_at_call 13; (with_reducible refine (Kin.callK (W := W4) gRw (hw2)).mono ?_); rintro e w' ⟨z5, ⟨ub, Ay, my, cy, allb, rfl, hwb, hub, hry⟩, hz5, rfl⟩; skip)
          obtain ⟨W5, hW5⟩ : ∃ W_, z5.1 = W_ := ⟨_, rfl⟩
          have hbW5 := z5.2
          rw [hW5] at hub hry hbW5 ⊢
          have HUB := Lib.hid hub
          have HRY := Lib.hid hry
          have HWB := Lib.hid hwb
          clear hub hry hwb hz5 hW5 hd4 hw2
          replace HBL := Lib.hid (HBL.out.below hbW5)
          replace HB1 := Lib.hid (HB1.out.trans (hbW5.mono HB1.out.size))
          replace HUA := Lib.hid (RdN.below HUA.out hbW5)
          replace HRX := Lib.hid (HRX.out.below hbW5)
          replace Hgx := Lib.hid (Hgx.out.below hbW5)
          clear hbW5
          have x_0 : W5.cell? ⟨gx, 0, none⟩ = some (.slice Ax mx cx) := Hgx.out.cell 0
          have x_l := Hgx.out.lt
          go_wp2_with fail
          obtain ⟨W6, hW6⟩ : ∃ W_, W5.alloc (.cells #[.slice Ay my cy] 24) = W_ := ⟨_, rfl⟩
          obtain ⟨gy, hgy⟩ : ∃ g_, W5.heap.size = g_ := ⟨_, rfl⟩
          have hbW6 : Below W5.heap.size W5 W6 := by rw [← hW6]; exact gRw
          have Hgy := Lib.hid (show Blk W6 gy 24 #[.slice Ay my cy] from by rw [← hW6, ← hgy]; exact Blk.new _ _ _)
          replace HBL := Lib.hid (HBL.out.below hbW6)
          replace HB1 := Lib.hid (HB1.out.trans (hbW6.mono HB1.out.size))
          replace HUA := Lib.hid (RdN.below HUA.out hbW6)
          replace HRX := Lib.hid (HRX.out.below hbW6)
          replace Hgx := Lib.hid (Hgx.out.below hbW6)
          replace HUB := Lib.hid (RdN.below HUB.out hbW6)
          replace HRY := Lib.hid (HRY.out.below hbW6)
          rw [hW6, hgy]
          clear hW6 hgy hbW6
          clear x_0 x_l
          have hrr := reg_rows HRX.out
          have hck := ck_ero HVT.out HCN.out (j := (m : Int)) (by omega) (by omega)
          have hck2 : (Trc.ckR (eroR rows (m : Int))).length ≤ 32768 := by omega
          have hv1 := rvalid_iff.1 (eroR_valid rows (m : Int))
          (go_at_call 14; (with_reducible refine (Kin.callK (W := W6) gRw (walkT_any (.slice Ax mx cx) (eroR rows (m : Int)) _ hrr hv1 hck2)).mono ?_); rintro e w' ⟨z7, ⟨uw, ts, rfl, hwk, huw⟩, hz7, rfl⟩; skip)
          obtain ⟨W7, hW7⟩ : ∃ W_, z7.1 = W_ := ⟨_, rfl⟩
          have hbW7 := z7.2
          rw [hW7] at huw hbW7 ⊢
          have HUW := Lib.hid (OwnN.rd encTr_len huw)
          have HWK := Lib.hid hwk
          clear huw hwk hz7 hW7 hrr hck hck2 hv1
          replace HBL := Lib.hid (HBL.out.below hbW7)
          replace HB1 := Lib.hid (HB1.out.trans (hbW7.mono HB1.out.size))
          replace HUA := Lib.hid (RdN.below HUA.out hbW7)
          replace HRX := Lib.hid (HRX.out.below hbW7)
          replace Hgx := Lib.hid (Hgx.out.below hbW7)
          replace HUB := Lib.hid (RdN.below HUB.out hbW7)
          replace HRY := Lib.hid (HRY.out.below hbW7)
          replace Hgy := Lib.hid (Hgy.out.below hbW7)
          clear hbW7
          have s_0 : W7.cell? ⟨W.heap.size, 0, none⟩ = some s := HBL.out.cell 0
          have s_l := HBL.out.lt
          go_wp2_with fail
          have hd7 : RdReg W7 (.agg #[s]) rows := ⟨_, rfl, RdN.below HR.out HB1.out⟩
          have hw3 := walls_any _ rows 20 W7 hd7 HVT.out HCN.out (by omega)
          rw [show ((20 : Nat) : Int) = 20 from rfl, ero_end HVT.out HCN.out] at hw3
          (go_at_call 13; (with_reducible refine (Kin.callK (W := W7) gRw (hw3)).mono ?_); rintro e w' ⟨z8, ⟨ul, Al, ml, cl, alll, rfl, _, _, hrl⟩, hz8, rfl⟩; skip)
          obtain ⟨W8, hW8⟩ : ∃ W_, z8.1 = W_ := ⟨_, rfl⟩
          have hbW8 := z8.2
          rw [hW8] at hrl hbW8 ⊢
          have HRL := Lib.hid hrl
          clear hrl hz8 hW8 hd7 hw3 s_0 s_l
          replace HBL := Lib.hid (HBL.out.below hbW8)
          replace HB1 := Lib.hid (HB1.out.trans (hbW8.mono HB1.out.size))
          replace HUA := Lib.hid (RdN.below HUA.out hbW8)
          replace HRX := Lib.hid (HRX.out.below hbW8)
          replace Hgx := Lib.hid (Hgx.out.below hbW8)
          replace HUB := Lib.hid (RdN.below HUB.out hbW8)
          replace HRY := Lib.hid (HRY.out.below hbW8)
          replace Hgy := Lib.hid (Hgy.out.below hbW8)
          replace HUW := Lib.hid (RdN.below HUW.out hbW8)
          clear hbW8
          go_wp2_with fail
          obtain ⟨W9, hW9⟩ : ∃ W_, W8.alloc (.cells #[.slice Al ml cl] 24) = W_ := ⟨_, rfl⟩
          obtain ⟨gl, hgl⟩ : ∃ g_, W8.heap.size = g_ := ⟨_, rfl⟩
          have hbW9 : Below W8.heap.size W8 W9 := by rw [← hW9]; exact gRw
          have Hgl := Lib.hid (show Blk W9 gl 24 #[.slice Al ml cl] from by rw [← hW9, ← hgl]; exact Blk.new _ _ _)
          replace HBL := Lib.hid (HBL.out.below hbW9)
          replace HB1 := Lib.hid (HB1.out.trans (hbW9.mono HB1.out.size))
          replace HUA := Lib.hid (RdN.below HUA.out hbW9)
          replace HRX := Lib.hid (HRX.out.below hbW9)
          replace Hgx := Lib.hid (Hgx.out.below hbW9)
          replace HUB := Lib.hid (RdN.below HUB.out hbW9)
          replace HRY := Lib.hid (HRY.out.below hbW9)
          replace Hgy := Lib.hid (Hgy.out.below hbW9)
          replace HUW := Lib.hid (RdN.below HUW.out hbW9)
          replace HRL := Lib.hid (HRL.out.below hbW9)
          rw [hW9, hgl]
          clear hW9 hgl hbW9
          obtain ⟨la, lca⟩ := wls_small HVT.out HCN.out (by omega) HWA.out
          obtain ⟨lb, lcb⟩ := wls_small HVT.out HCN.out (by omega) HWB.out
          obtain ⟨lw, lcw⟩ := wk_small HVT.out HCN.out (by omega) HWK.out
          (go_at_call 16; (with_reducible refine (Kin.callK (W := W9) gRw (cover_cov _ (oncT allb) _ HUB.out (by omega) (by omega))).mono ?_); rintro e w' ⟨z10, ⟨Ab, mb, cb, rfl, hrb⟩, hz10, rfl⟩; skip)
          obtain ⟨W10, hW10⟩ : ∃ W_, z10.1 = W_ := ⟨_, rfl⟩
          have hbW10 := z10.2
          rw [hW10] at hrb hbW10 ⊢
          have HCB := Lib.hid hrb
          clear hrb hz10 hW10
          replace HBL := Lib.hid (HBL.out.below hbW10)
          replace HB1 := Lib.hid (HB1.out.trans (hbW10.mono HB1.out.size))
          replace HUA := Lib.hid (RdN.below HUA.out hbW10)
          replace HRX := Lib.hid (HRX.out.below hbW10)
          replace Hgx := Lib.hid (Hgx.out.below hbW10)
          replace HUB := Lib.hid (RdN.below HUB.out hbW10)
          replace HRY := Lib.hid (HRY.out.below hbW10)
          replace Hgy := Lib.hid (Hgy.out.below hbW10)
          replace HUW := Lib.hid (RdN.below HUW.out hbW10)
          replace HRL := Lib.hid (HRL.out.below hbW10)
          replace Hgl := Lib.hid (Hgl.out.below hbW10)
          clear hbW10
          go_wp2_with fail
          (go_at_call 16; (with_reducible refine (Kin.callK (W := W10) gRw (cover_cov _ (oncT alla) _ HUA.out (by omega) (by omega))).mono ?_); rintro e w' ⟨z11, ⟨Aa, ma, ca, rfl, hra⟩, hz11, rfl⟩; skip)
          obtain ⟨W11, hW11⟩ : ∃ W_, z11.1 = W_ := ⟨_, rfl⟩
          have hbW11 := z11.2
          rw [hW11] at hra hbW11 ⊢
          have HCA := Lib.hid hra
          clear hra hz11 hW11
          replace HBL := Lib.hid (HBL.out.below hbW11)
          replace HB1 := Lib.hid (HB1.out.trans (hbW11.mono HB1.out.size))
          replace HUA := Lib.hid (RdN.below HUA.out hbW11)
          replace HRX := Lib.hid (HRX.out.below hbW11)
          replace Hgx := Lib.hid (Hgx.out.below hbW11)
          replace HUB := Lib.hid (RdN.below HUB.out hbW11)
          replace HRY := Lib.hid (HRY.out.below hbW11)
          replace Hgy := Lib.hid (Hgy.out.below hbW11)
          replace HUW := Lib.hid (RdN.below HUW.out hbW11)
          replace HRL := Lib.hid (HRL.out.below hbW11)
          replace Hgl := Lib.hid (Hgl.out.below hbW11)
          replace HCB := Lib.hid (HCB.out.below hbW11)
          clear hbW11
          go_wp2_with fail
          have hring := walls_ring HVT.out HCN.out (by omega) HWA.out HWB.out HWK.out
          (go_at_call 15; (with_reducible refine (Kin.callK (W := W11) gRw (subtract18_is _ _ (cov (oncT allb)) (cov (oncT alla)) _ HCB.out HCA.out (rbd_v (cov_valid _)) (rbd_v (cov_valid _)) hring)).mono ?_); rintro e w' ⟨z12, ⟨Ag, mg, cg, rfl, -, hrg⟩, hz12, rfl⟩; skip)
          obtain ⟨W12, hW12⟩ : ∃ W_, z12.1 = W_ := ⟨_, rfl⟩
          have hbW12 := z12.2
          rw [hW12] at hrg hbW12 ⊢
          have HRG := Lib.hid hrg
          clear hrg hz12 hW12 hring
          replace HBL := Lib.hid (HBL.out.below hbW12)
          replace HB1 := Lib.hid (HB1.out.trans (hbW12.mono HB1.out.size))
          replace HUA := Lib.hid (RdN.below HUA.out hbW12)
          replace HRX := Lib.hid (HRX.out.below hbW12)
          replace Hgx := Lib.hid (Hgx.out.below hbW12)
          replace HUB := Lib.hid (RdN.below HUB.out hbW12)
          replace HRY := Lib.hid (HRY.out.below hbW12)
          replace Hgy := Lib.hid (Hgy.out.below hbW12)
          replace HUW := Lib.hid (RdN.below HUW.out hbW12)
          replace HRL := Lib.hid (HRL.out.below hbW12)
          replace Hgl := Lib.hid (Hgl.out.below hbW12)
          replace HCB := Lib.hid (HCB.out.below hbW12)
          replace HCA := Lib.hid (HCA.out.below hbW12)
          clear hbW12
          go_wp2_with fail
          obtain ⟨W13, hW13⟩ : ∃ W_, W12.alloc (.cells #[.slice Ag mg cg] 24) = W_ := ⟨_, rfl⟩
          obtain ⟨gg, hgg⟩ : ∃ g_, W12.heap.size = g_ := ⟨_, rfl⟩
          have hbW13 : Below W12.heap.size W12 W13 := by rw [← hW13]; exact gRw
          have Hgg := Lib.hid (show Blk W13 gg 24 #[.slice Ag mg cg] from by rw [← hW13, ← hgg]; exact Blk.new _ _ _)
          replace HBL := Lib.hid (HBL.out.below hbW13)
          replace HB1 := Lib.hid (HB1.out.trans (hbW13.mono HB1.out.size))
          replace HUA := Lib.hid (RdN.below HUA.out hbW13)
          replace HRX := Lib.hid (HRX.out.below hbW13)
          replace Hgx := Lib.hid (Hgx.out.below hbW13)
          replace HUB := Lib.hid (RdN.below HUB.out hbW13)
          replace HRY := Lib.hid (HRY.out.below hbW13)
          replace Hgy := Lib.hid (Hgy.out.below hbW13)
          replace HUW := Lib.hid (RdN.below HUW.out hbW13)
          replace HRL := Lib.hid (HRL.out.below hbW13)
          replace Hgl := Lib.hid (Hgl.out.below hbW13)
          replace HCB := Lib.hid (HCB.out.below hbW13)
          replace HCA := Lib.hid (HCA.out.below hbW13)
          replace HRG := Lib.hid (HRG.out.below hbW13)
          rw [hW13, hgg]
          clear hW13 hgg hbW13
          have y_0 : W13.cell? ⟨gy, 0, none⟩ = some (.slice Ay my cy) := Hgy.out.cell 0
          have y_l := Hgy.out.lt
          have x_0 : W13.cell? ⟨gx, 0, none⟩ = some (.slice Ax mx cx) := Hgx.out.cell 0
          have x_l := Hgx.out.lt
          have g_0 : W13.cell? ⟨gg, 0, none⟩ = some (.slice Ag mg cg) := Hgg.out.cell 0
          have g_l := Hgg.out.lt
          have l_0 : W13.cell? ⟨gl, 0, none⟩ = some (.slice Al ml cl) := Hgl.out.cell 0
          have l_l := Hgl.out.lt
          refine wp_region_held_drew (S := fun w' => Below W13.heap.size W13 w') (by kernel_rfl) ((Below.refl _ _).drew) (fun hHeld => ?_)
          try simp only [List.size_toArray, List.length_cons, List.length_nil, Nat.zero_add, Nat.reduceAdd, List.replicate, Array.replicate]
          obtain ⟨V0, hV0⟩ : ∃ V, W13.drew = V := ⟨_, rfl⟩
          rw [hV0] at hHeld ⊢
          clear hV0
          have HH := Lib.hid hHeld
          refine wpAnyH_take (i := 0) (v := ?_) rfl (by kernel_rfl) (by kernel_rfl) (by kernel_rfl) (fun _ _ _ h => h) (Or.inl ⟨by kernel_rfl, ?_⟩) (by assumption) ?_
          rotate_left
          · (intro w' hSw; have s0 := (hSw.cell (p := ⟨gy, 0, none⟩) y_l).trans y_0; have s1 := (hSw.cell (p := ⟨gx, 0, none⟩) x_l).trans x_0; have s2 := (hSw.cell (p := ⟨gg, 0, none⟩) g_l).trans g_0; have s3 := (hSw.cell (p := ⟨gl, 0, none⟩) l_l).trans l_0; go_simp; try with_reducible rfl)
          try simp only [List.getElem_toArray, List.getElem_cons_succ, List.getElem_cons_zero, Act.put, List.setIfInBounds_toArray, List.set_cons_zero, List.set_cons_succ]
          refine wpAnyH_take (i := 2) (v := ?_) rfl (by kernel_rfl) (by kernel_rfl) (by kernel_rfl) (fun _ _ _ h => h) (Or.inl ⟨by kernel_rfl, ?_⟩) (by assumption) ?_
          rotate_left
          · (intro w' hSw; have s0 := (hSw.cell (p := ⟨gy, 0, none⟩) y_l).trans y_0; have s1 := (hSw.cell (p := ⟨gx, 0, none⟩) x_l).trans x_0; have s2 := (hSw.cell (p := ⟨gg, 0, none⟩) g_l).trans g_0; have s3 := (hSw.cell (p := ⟨gl, 0, none⟩) l_l).trans l_0; go_simp; try with_reducible rfl)
          try simp only [List.getElem_toArray, List.getElem_cons_succ, List.getElem_cons_zero, Act.put, List.setIfInBounds_toArray, List.set_cons_zero, List.set_cons_succ]
          refine wpAnyH_ready (rs := [1]) (by kernel_rfl) (by simp) (AllReadyH.cons rfl (fun K hK => ?_) AllReadyH.nil)
          go_simp
          (go_at_call 16; (with_reducible refine (Kin.callK (W := V0) gRw (cover_cov _ (oncT alla) _ (RdN.below HUA.out HH.out) (by omega) (by omega))).mono ?_); rintro e w' ⟨z, ⟨A1, m1, c1, rfl, hr1⟩, hz, rfl⟩; skip)
          simp only []
          have hx : Below W13.heap.size W13 z.1 := HH.out.trans (z.2.mono HH.out.size)
          have hy := z.2
          obtain ⟨V1, hV1⟩ : ∃ V_, z.1 = V_ := ⟨_, rfl⟩
          rw [hV1] at hr1 hx hy ⊢
          replace HH := Lib.hid hx
          have HC1 := Lib.hid hr1
          clear hr1
          refine hK.out _ _ (hx) (fun hHeld2 => ?_)
          clear hK hHeld
          have hHeld := hHeld2
          clear hHeld2 K
          try simp only [List.getElem_toArray, List.getElem_cons_succ, List.getElem_cons_zero, Act.put, List.setIfInBounds_toArray, List.set_cons_zero, List.set_cons_succ]
          clear hx hy hV1 hz
          refine wpAnyH_ready (rs := [3]) (by kernel_rfl) (by simp) (AllReadyH.cons rfl (fun K hK => ?_) AllReadyH.nil)
          go_simp
          (go_at_call 16; (with_reducible refine (Kin.callK (W := V1) gRw (cover_cov _ (oncT allb) _ (RdN.below HUB.out HH.out) (by omega) (by omega))).mono ?_); rintro e w' ⟨z, ⟨A2, m2, c2, rfl, hr2⟩, hz, rfl⟩; skip)
          simp only []
          have hx : Below W13.heap.size W13 z.1 := HH.out.trans (z.2.mono HH.out.size)
          have hy := z.2
          obtain ⟨V2, hV2⟩ : ∃ V_, z.1 = V_ := ⟨_, rfl⟩
          rw [hV2] at hr2 hx hy ⊢
          replace HH := Lib.hid hx
          have HC2 := Lib.hid hr2
          replace HC1 := Lib.hid (HC1.out.below hy)
          clear hr2
          refine hK.out _ _ (hx) (fun hHeld2 => ?_)
          clear hK hHeld
          have hHeld := hHeld2
          clear hHeld2 K
          try simp only [List.getElem_toArray, List.getElem_cons_succ, List.getElem_cons_zero, Act.put, List.setIfInBounds_toArray, List.set_cons_zero, List.set_cons_succ]
          clear hx hy hV2 hz
          refine wpAnyH_ready (rs := [4]) (by kernel_rfl) (by simp) (AllReadyH.cons rfl (fun K hK => ?_) AllReadyH.nil)
          go_simp
          (go_at_call 17; (with_reducible refine (Kin.callK (W := V2) gRw (within18_t _ _ _ HC1.out HC2.out (walls_more HVT.out HCN.out (by omega) HWA.out HWB.out))).mono ?_); rintro e w' ⟨z, rfl, hz, rfl⟩; skip)
          simp only []
          have hx : Below W13.heap.size W13 z.1 := HH.out.trans (z.2.mono HH.out.size)
          have hy := z.2
          obtain ⟨V3, hV3⟩ : ∃ V_, z.1 = V_ := ⟨_, rfl⟩
          rw [hV3] at hx hy ⊢
          replace HH := Lib.hid hx
          skip
          refine hK.out _ _ (hx) (fun hHeld2 => ?_)
          clear hK hHeld
          have hHeld := hHeld2
          clear hHeld2 K
          try simp only [List.getElem_toArray, List.getElem_cons_succ, List.getElem_cons_zero, Act.put, List.setIfInBounds_toArray, List.set_cons_zero, List.set_cons_succ]
          clear hx hy hV3 hz
          refine wpAnyH_take (i := 5) (v := ?_) rfl (by kernel_rfl) (by kernel_rfl) (by kernel_rfl) (fun _ _ _ h => h) (Or.inl ⟨by kernel_rfl, ?_⟩) (by assumption) ?_
          rotate_left
          · (intro w' hSw; have s0 := (hSw.cell (p := ⟨gy, 0, none⟩) y_l).trans y_0; have s1 := (hSw.cell (p := ⟨gx, 0, none⟩) x_l).trans x_0; have s2 := (hSw.cell (p := ⟨gg, 0, none⟩) g_l).trans g_0; have s3 := (hSw.cell (p := ⟨gl, 0, none⟩) l_l).trans l_0; go_simp; try with_reducible rfl)
          try simp only [List.getElem_toArray, List.getElem_cons_succ, List.getElem_cons_zero, Act.put, List.setIfInBounds_toArray, List.set_cons_zero, List.set_cons_succ]
          refine wpAnyH_take (i := 6) (v := ?_) rfl (by kernel_rfl) (by kernel_rfl) (by kernel_rfl) (fun _ _ _ h => h) (Or.inl ⟨by kernel_rfl, ?_⟩) (by assumption) ?_
          rotate_left
          · (intro w' hSw; have s0 := (hSw.cell (p := ⟨gy, 0, none⟩) y_l).trans y_0; have s1 := (hSw.cell (p := ⟨gx, 0, none⟩) x_l).trans x_0; have s2 := (hSw.cell (p := ⟨gg, 0, none⟩) g_l).trans g_0; have s3 := (hSw.cell (p := ⟨gl, 0, none⟩) l_l).trans l_0; go_simp; try with_reducible rfl)
          try simp only [List.getElem_toArray, List.getElem_cons_succ, List.getElem_cons_zero, Act.put, List.setIfInBounds_toArray, List.set_cons_zero, List.set_cons_succ]
          refine wpAnyH_take (i := 7) (v := ?_) rfl (by kernel_rfl) (by kernel_rfl) (by kernel_rfl) (fun _ _ _ h => h) (Or.inl ⟨by kernel_rfl, ?_⟩) (by assumption) ?_
          rotate_left
          · (intro w' hSw; have s0 := (hSw.cell (p := ⟨gy, 0, none⟩) y_l).trans y_0; have s1 := (hSw.cell (p := ⟨gx, 0, none⟩) x_l).trans x_0; have s2 := (hSw.cell (p := ⟨gg, 0, none⟩) g_l).trans g_0; have s3 := (hSw.cell (p := ⟨gl, 0, none⟩) l_l).trans l_0; go_simp; try with_reducible rfl)
          try simp only [List.getElem_toArray, List.getElem_cons_succ, List.getElem_cons_zero, Act.put, List.setIfInBounds_toArray, List.set_cons_zero, List.set_cons_succ]
          have hlr := rest_less HVT.out (n := m) (by omega)
          rw [show ((m + 1 : Nat) : Int) = (m : Int) + 1 from by push_cast; rfl] at hlr
          refine wpAnyH_ready (rs := [8]) (by kernel_rfl) (by simp) (AllReadyH.cons rfl (fun K hK => ?_) AllReadyH.nil)
          go_simp
          (go_at_call 17; (with_reducible refine (Kin.callK (W := V3) gRw (within18_t _ _ _ (HRY.out.below HH.out) (HRX.out.below HH.out) hlr)).mono ?_); rintro e w' ⟨z, rfl, hz, rfl⟩; skip)
          simp only []
          have hx : Below W13.heap.size W13 z.1 := HH.out.trans (z.2.mono HH.out.size)
          have hy := z.2
          obtain ⟨V4, hV4⟩ : ∃ V_, z.1 = V_ := ⟨_, rfl⟩
          rw [hV4] at hx hy ⊢
          replace HH := Lib.hid hx
          skip
          refine hK.out _ _ (hx) (fun hHeld2 => ?_)
          clear hK hHeld
          have hHeld := hHeld2
          clear hHeld2 K
          try simp only [List.getElem_toArray, List.getElem_cons_succ, List.getElem_cons_zero, Act.put, List.setIfInBounds_toArray, List.set_cons_zero, List.set_cons_succ]
          clear hx hy hV4 hz
          refine wpAnyH_take (i := 9) (v := ?_) rfl (by kernel_rfl) (by kernel_rfl) (by kernel_rfl) (fun _ _ _ h => h) (Or.inl ⟨by kernel_rfl, ?_⟩) (by assumption) ?_
          rotate_left
          · (intro w' hSw; have s0 := (hSw.cell (p := ⟨gy, 0, none⟩) y_l).trans y_0; have s1 := (hSw.cell (p := ⟨gx, 0, none⟩) x_l).trans x_0; have s2 := (hSw.cell (p := ⟨gg, 0, none⟩) g_l).trans g_0; have s3 := (hSw.cell (p := ⟨gl, 0, none⟩) l_l).trans l_0; go_simp; try with_reducible rfl)
          try simp only [List.getElem_toArray, List.getElem_cons_succ, List.getElem_cons_zero, Act.put, List.setIfInBounds_toArray, List.set_cons_zero, List.set_cons_succ]
          refine wpAnyH_take (i := 10) (v := ?_) rfl (by kernel_rfl) (by kernel_rfl) (by kernel_rfl) (fun _ _ _ h => h) (Or.inl ⟨by kernel_rfl, ?_⟩) (by assumption) ?_
          rotate_left
          · (intro w' hSw; have s0 := (hSw.cell (p := ⟨gy, 0, none⟩) y_l).trans y_0; have s1 := (hSw.cell (p := ⟨gx, 0, none⟩) x_l).trans x_0; have s2 := (hSw.cell (p := ⟨gg, 0, none⟩) g_l).trans g_0; have s3 := (hSw.cell (p := ⟨gl, 0, none⟩) l_l).trans l_0; go_simp; try with_reducible rfl)
          try simp only [List.getElem_toArray, List.getElem_cons_succ, List.getElem_cons_zero, Act.put, List.setIfInBounds_toArray, List.set_cons_zero, List.set_cons_succ]
          refine wpAnyH_take (i := 11) (v := ?_) rfl (by kernel_rfl) (by kernel_rfl) (by kernel_rfl) (fun _ _ _ h => h) (Or.inl ⟨by kernel_rfl, ?_⟩) (by assumption) ?_
          rotate_left
          · (intro w' hSw; have s0 := (hSw.cell (p := ⟨gy, 0, none⟩) y_l).trans y_0; have s1 := (hSw.cell (p := ⟨gx, 0, none⟩) x_l).trans x_0; have s2 := (hSw.cell (p := ⟨gg, 0, none⟩) g_l).trans g_0; have s3 := (hSw.cell (p := ⟨gl, 0, none⟩) l_l).trans l_0; go_simp; try with_reducible rfl)
          try simp only [List.getElem_toArray, List.getElem_cons_succ, List.getElem_cons_zero, Act.put, List.setIfInBounds_toArray, List.set_cons_zero, List.set_cons_succ]
          refine wpAnyH_take (i := 12) (v := ?_) rfl (by kernel_rfl) (by kernel_rfl) (by kernel_rfl) (fun _ _ _ h => h) (Or.inl ⟨by kernel_rfl, ?_⟩) (by assumption) ?_
          rotate_left
          · (intro w' hSw; have s0 := (hSw.cell (p := ⟨gy, 0, none⟩) y_l).trans y_0; have s1 := (hSw.cell (p := ⟨gx, 0, none⟩) x_l).trans x_0; have s2 := (hSw.cell (p := ⟨gg, 0, none⟩) g_l).trans g_0; have s3 := (hSw.cell (p := ⟨gl, 0, none⟩) l_l).trans l_0; go_simp; try with_reducible rfl)
          try simp only [List.getElem_toArray, List.getElem_cons_succ, List.getElem_cons_zero, Act.put, List.setIfInBounds_toArray, List.set_cons_zero, List.set_cons_succ]
          refine wpAnyH_ready (rs := [13]) (by kernel_rfl) (by simp) (AllReadyH.cons rfl (fun K hK => ?_) AllReadyH.nil)
          go_simp
          (go_at_call 16; (with_reducible refine (Kin.callK (W := V4) gRw (cover_cov _ ts _ (RdN.below HUW.out HH.out) (by omega) (by omega))).mono ?_); rintro e w' ⟨z, ⟨A3, m3, c3, rfl, hr3⟩, hz, rfl⟩; skip)
          simp only []
          have hx : Below W13.heap.size W13 z.1 := HH.out.trans (z.2.mono HH.out.size)
          have hy := z.2
          obtain ⟨V5, hV5⟩ : ∃ V_, z.1 = V_ := ⟨_, rfl⟩
          rw [hV5] at hr3 hx hy ⊢
          replace HH := Lib.hid hx
          have HC3 := Lib.hid hr3
          clear hr3
          refine hK.out _ _ (hx) (fun hHeld2 => ?_)
          clear hK hHeld
          have hHeld := hHeld2
          clear hHeld2 K
          try simp only [List.getElem_toArray, List.getElem_cons_succ, List.getElem_cons_zero, Act.put, List.setIfInBounds_toArray, List.set_cons_zero, List.set_cons_succ]
          clear hx hy hV5 hz
          refine wpAnyH_ready (rs := [14]) (by kernel_rfl) (by simp) (AllReadyH.cons rfl (fun K hK => ?_) AllReadyH.nil)
          go_simp
          (go_at_call 11; (with_reducible refine (Kin.callK (W := V5) gRw (same18_yes _ _ (cov ts) _ (HRG.out.below HH.out) HC3.out (rbd_v (cov_valid _)))).mono ?_); rintro e w' ⟨z, rfl, hz, rfl⟩; skip)
          simp only []
          have hx : Below W13.heap.size W13 z.1 := HH.out.trans (z.2.mono HH.out.size)
          have hy := z.2
          obtain ⟨V6, hV6⟩ : ∃ V_, z.1 = V_ := ⟨_, rfl⟩
          rw [hV6] at hx hy ⊢
          replace HH := Lib.hid hx
          skip
          refine hK.out _ _ (hx) (fun hHeld2 => ?_)
          clear hK hHeld
          have hHeld := hHeld2
          clear hHeld2 K
          try simp only [List.getElem_toArray, List.getElem_cons_succ, List.getElem_cons_zero, Act.put, List.setIfInBounds_toArray, List.set_cons_zero, List.set_cons_succ]
          clear hx hy hV6 hz
          refine wpAnyH_take (i := 15) (v := ?_) rfl (by kernel_rfl) (by kernel_rfl) (by kernel_rfl) (fun _ _ _ h => h) (Or.inl ⟨by kernel_rfl, ?_⟩) (by assumption) ?_
          rotate_left
          · (intro w' hSw; have s0 := (hSw.cell (p := ⟨gy, 0, none⟩) y_l).trans y_0; have s1 := (hSw.cell (p := ⟨gx, 0, none⟩) x_l).trans x_0; have s2 := (hSw.cell (p := ⟨gg, 0, none⟩) g_l).trans g_0; have s3 := (hSw.cell (p := ⟨gl, 0, none⟩) l_l).trans l_0; go_simp; try with_reducible rfl)
          try simp only [List.getElem_toArray, List.getElem_cons_succ, List.getElem_cons_zero, Act.put, List.setIfInBounds_toArray, List.set_cons_zero, List.set_cons_succ]
          refine wpAnyH_take (i := 16) (v := ?_) rfl (by kernel_rfl) (by kernel_rfl) (by kernel_rfl) (fun _ _ _ h => h) (Or.inl ⟨by kernel_rfl, ?_⟩) (by assumption) ?_
          rotate_left
          · (intro w' hSw; have s0 := (hSw.cell (p := ⟨gy, 0, none⟩) y_l).trans y_0; have s1 := (hSw.cell (p := ⟨gx, 0, none⟩) x_l).trans x_0; have s2 := (hSw.cell (p := ⟨gg, 0, none⟩) g_l).trans g_0; have s3 := (hSw.cell (p := ⟨gl, 0, none⟩) l_l).trans l_0; go_simp; try with_reducible rfl)
          try simp only [List.getElem_toArray, List.getElem_cons_succ, List.getElem_cons_zero, Act.put, List.setIfInBounds_toArray, List.set_cons_zero, List.set_cons_succ]
          refine wpAnyH_take (i := 17) (v := ?_) rfl (by kernel_rfl) (by kernel_rfl) (by kernel_rfl) (fun _ _ _ h => h) (Or.inl ⟨by kernel_rfl, ?_⟩) (by assumption) ?_
          rotate_left
          · (intro w' hSw; have s0 := (hSw.cell (p := ⟨gy, 0, none⟩) y_l).trans y_0; have s1 := (hSw.cell (p := ⟨gx, 0, none⟩) x_l).trans x_0; have s2 := (hSw.cell (p := ⟨gg, 0, none⟩) g_l).trans g_0; have s3 := (hSw.cell (p := ⟨gl, 0, none⟩) l_l).trans l_0; go_simp; try with_reducible rfl)
          try simp only [List.getElem_toArray, List.getElem_cons_succ, List.getElem_cons_zero, Act.put, List.setIfInBounds_toArray, List.set_cons_zero, List.set_cons_succ]
          refine wpAnyH_ready (rs := [18]) (by kernel_rfl) (by simp) (AllReadyH.cons rfl (fun K hK => ?_) AllReadyH.nil)
          go_simp
          (go_at_call 18; (with_reducible refine (Kin.callK (W := V6) gRw (count18_is _ [] _ (HRL.out.below HH.out) (rbd_v rvalid_nil) cntR_nil)).mono ?_); rintro e w' ⟨z, rfl, hz, rfl⟩; skip)
          simp only []
          have hx : Below W13.heap.size W13 z.1 := HH.out.trans (z.2.mono HH.out.size)
          have hy := z.2
          obtain ⟨V7, hV7⟩ : ∃ V_, z.1 = V_ := ⟨_, rfl⟩
          rw [hV7] at hx hy ⊢
          replace HH := Lib.hid hx
          skip
          refine hK.out _ _ (hx) (fun hHeld2 => ?_)
          clear hK hHeld
          have hHeld := hHeld2
          clear hHeld2 K
          try simp only [List.getElem_toArray, List.getElem_cons_succ, List.getElem_cons_zero, Act.put, List.setIfInBounds_toArray, List.set_cons_zero, List.set_cons_succ]
          clear hx hy hV7 hz
          refine wpAnyH_take (i := 19) (v := ?_) rfl (by kernel_rfl) (by kernel_rfl) (by kernel_rfl) (fun _ _ _ h => h) (Or.inl ⟨by kernel_rfl, ?_⟩) (by assumption) ?_
          rotate_left
          · (intro w' hSw; have s0 := (hSw.cell (p := ⟨gy, 0, none⟩) y_l).trans y_0; have s1 := (hSw.cell (p := ⟨gx, 0, none⟩) x_l).trans x_0; have s2 := (hSw.cell (p := ⟨gg, 0, none⟩) g_l).trans g_0; have s3 := (hSw.cell (p := ⟨gl, 0, none⟩) l_l).trans l_0; go_simp; try with_reducible rfl)
          try simp only [List.getElem_toArray, List.getElem_cons_succ, List.getElem_cons_zero, Act.put, List.setIfInBounds_toArray, List.set_cons_zero, List.set_cons_succ]
          refine wpAnyH_take (i := 20) (v := ?_) rfl (by kernel_rfl) (by kernel_rfl) (by kernel_rfl) (fun _ _ _ h => h) (Or.inl ⟨by kernel_rfl, ?_⟩) (by assumption) ?_
          rotate_left
          · (intro w' hSw; have s0 := (hSw.cell (p := ⟨gy, 0, none⟩) y_l).trans y_0; have s1 := (hSw.cell (p := ⟨gx, 0, none⟩) x_l).trans x_0; have s2 := (hSw.cell (p := ⟨gg, 0, none⟩) g_l).trans g_0; have s3 := (hSw.cell (p := ⟨gl, 0, none⟩) l_l).trans l_0; go_simp; try with_reducible rfl)
          try simp only [List.getElem_toArray, List.getElem_cons_succ, List.getElem_cons_zero, Act.put, List.setIfInBounds_toArray, List.set_cons_zero, List.set_cons_succ]
          refine wpAnyH_take (i := 21) (v := ?_) rfl (by kernel_rfl) (by kernel_rfl) (by kernel_rfl) (fun _ _ _ h => h) (Or.inl ⟨by kernel_rfl, ?_⟩) (by assumption) ?_
          rotate_left
          · (intro w' hSw; have s0 := (hSw.cell (p := ⟨gy, 0, none⟩) y_l).trans y_0; have s1 := (hSw.cell (p := ⟨gx, 0, none⟩) x_l).trans x_0; have s2 := (hSw.cell (p := ⟨gg, 0, none⟩) g_l).trans g_0; have s3 := (hSw.cell (p := ⟨gl, 0, none⟩) l_l).trans l_0; go_simp; try with_reducible rfl)
          try simp only [List.getElem_toArray, List.getElem_cons_succ, List.getElem_cons_zero, Act.put, List.setIfInBounds_toArray, List.set_cons_zero, List.set_cons_succ]
          refine wpAnyH_ready (rs := [22]) (by kernel_rfl) (by simp) (AllReadyH.cons rfl (fun K hK => ?_) AllReadyH.nil)
          go_simp
          (go_at_call 12; (with_reducible refine (Kin.callK (W := V7) gRw (filled_any _)).mono ?_); rintro e w' ⟨z, rfl, hz, rfl⟩; skip)
          simp only []
          have hx : Below W13.heap.size W13 z.1 := HH.out.trans (z.2.mono HH.out.size)
          have hy := z.2
          obtain ⟨V8, hV8⟩ : ∃ V_, z.1 = V_ := ⟨_, rfl⟩
          rw [hV8] at hx hy ⊢
          replace HH := Lib.hid hx
          skip
          refine hK.out _ _ (hx) (fun hHeld2 => ?_)
          clear hK hHeld
          have hHeld := hHeld2
          clear hHeld2 K
          try simp only [List.getElem_toArray, List.getElem_cons_succ, List.getElem_cons_zero, Act.put, List.setIfInBounds_toArray, List.set_cons_zero, List.set_cons_succ]
          clear hx hy hV8 hz
          refine wpAnyH_take (i := 23) (v := ?_) rfl (by kernel_rfl) (by kernel_rfl) (by kernel_rfl) (fun _ _ _ h => h) (Or.inl ⟨by kernel_rfl, ?_⟩) (by assumption) ?_
          rotate_left
          · (intro w' hSw; have s0 := (hSw.cell (p := ⟨gy, 0, none⟩) y_l).trans y_0; have s1 := (hSw.cell (p := ⟨gx, 0, none⟩) x_l).trans x_0; have s2 := (hSw.cell (p := ⟨gg, 0, none⟩) g_l).trans g_0; have s3 := (hSw.cell (p := ⟨gl, 0, none⟩) l_l).trans l_0; go_simp; try with_reducible rfl)
          try simp only [List.getElem_toArray, List.getElem_cons_succ, List.getElem_cons_zero, Act.put, List.setIfInBounds_toArray, List.set_cons_zero, List.set_cons_succ]
          refine wpAnyH_take (i := 24) (v := ?_) rfl (by kernel_rfl) (by kernel_rfl) (by kernel_rfl) (fun _ _ _ h => h) (Or.inl ⟨by kernel_rfl, ?_⟩) (by assumption) ?_
          rotate_left
          · (intro w' hSw; have s0 := (hSw.cell (p := ⟨gy, 0, none⟩) y_l).trans y_0; have s1 := (hSw.cell (p := ⟨gx, 0, none⟩) x_l).trans x_0; have s2 := (hSw.cell (p := ⟨gg, 0, none⟩) g_l).trans g_0; have s3 := (hSw.cell (p := ⟨gl, 0, none⟩) l_l).trans l_0; go_simp; try with_reducible rfl)
          try simp only [List.getElem_toArray, List.getElem_cons_succ, List.getElem_cons_zero, Act.put, List.setIfInBounds_toArray, List.set_cons_zero, List.set_cons_succ]
          refine wpAnyH_done (by kernel_rfl) ?_ _
          go_wp2_with fail
          go_ret
          exact ⟨rfl, HB1.out.trans (HH.out.mono HB1.out.size)⟩
    · have HNB := Lib.hid (show nearR rows = false by simpa using hn)
      clear hn
      go_enter Tryz.func4, Tryz.ntmps4
      go_wp2_with fail
      obtain ⟨W1, hW1⟩ : ∃ W1, W.alloc (.cells #[s] 24) = W1 := ⟨_, rfl⟩
      have hb1 : Below W.heap.size W W1 := hW1 ▸ (Below.refl _ _).alloc (Nat.le_refl _) _
      have hd1 : RdReg W1 (.agg #[s]) rows := ⟨_, rfl, RdN.below HR.out hb1⟩
      have B1 : Blk W1 W.heap.size 24 #[s] := hW1 ▸ Blk.new _ _ _
      have s_0 : W1.cell? ⟨W.heap.size, 0, none⟩ = some s := B1.cell 0
      have s_l := B1.lt
      have HD1 := Lib.hid hd1
      have HB1 := Lib.hid hb1
      have HBL := Lib.hid B1
      rw [hW1]
      clear hW1 hd1 hb1 B1
      (go_at_call 5; (with_reducible refine (Kin.callK (W := W1) gRw (valid18_is _ rows _ HD1.out HBD.out HVT.out)).mono ?_); rintro e w' ⟨z1, rfl, hz1, rfl⟩; skip)
      go_wp2_with fail
      have hd2 := HD1.out.below z1.2
      (go_at_call 6; (with_reducible refine (Kin.callK (W := W1) gRw (nearby_is _ rows _ hd2 HBD.out HVT.out HNB.out)).mono ?_); rintro e w' ⟨z2, rfl, hz2, rfl⟩; skip)
      go_wp2_with fail
      (go_at_call 12; (with_reducible refine (Kin.callK (W := W1) gRw (filled_any _)).mono ?_); rintro e w' ⟨z9, rfl, hz9, rfl⟩; skip)
      go_wp2_with fail
      go_ret
      exact ⟨rfl, HB1.out.trans (z9.2.mono HB1.out.size)⟩
  · have hv0 : rvalid rows = false := by simpa using hv
    have HV0 := Lib.hid hv0
    clear hv hv0 hrs hbd
    go_enter Tryz.func4, Tryz.ntmps4
    go_wp2_with fail
    obtain ⟨W1, hW1⟩ : ∃ W1, W.alloc (.cells #[s] 24) = W1 := ⟨_, rfl⟩
    have hb1 : Below W.heap.size W W1 := hW1 ▸ (Below.refl _ _).alloc (Nat.le_refl _) _
    have hd1 : RdReg W1 (.agg #[s]) rows := ⟨_, rfl, RdN.below HR.out hb1⟩
    have B1 : Blk W1 W.heap.size 24 #[s] := hW1 ▸ Blk.new _ _ _
    have s_0 : W1.cell? ⟨W.heap.size, 0, none⟩ = some s := B1.cell 0
    have s_l := B1.lt
    have HD1 := Lib.hid hd1
    have HB1 := Lib.hid hb1
    have HBL := Lib.hid B1
    rw [hW1]
    clear hW1 hd1 hb1 B1
    (go_at_call 5; (with_reducible refine (Kin.callK (W := W1) gRw (valid18_is _ rows _ HD1.out HBD.out HV0.out)).mono ?_); rintro e w' ⟨z1, rfl, hz1, rfl⟩; skip)
    go_wp2_with fail
    (go_at_call 12; (with_reducible refine (Kin.callK (W := W1) gRw (filled_any _)).mono ?_); rintro e w' ⟨z9, rfl, hz9, rfl⟩; skip)
    go_wp2_with fail
    go_ret
    exact ⟨rfl, HB1.out.trans (z9.2.mono HB1.out.size)⟩
set_option maxRecDepth 100000 in
theorem topWalls_lifted (os : Os) (started : os.Started) (H : Type) (enc : TypeId × Value → H) :
    ReturnsInHanded {} Tryz.checked os 4 .any (Rows.topWallsSpec.pre6 enc Tryz.prog Tryz.f4 Rows.topWallsRow.domain false) (Rows.topWallsSpec.post enc Tryz.prog Tryz.f4 false true false false) := by
  refine returnsInHanded_of_change (C := Tryz.checked) own started (by kernel_rfl) Tryz.func4
    (ChangeSpec.witness6 (enc := enc) (C := Tryz.checked) false ⟨#[], #[.agg #[.slice none 0 0], .int .i64 0], []⟩ 8 (by kernel_rfl) (by kernel_rfl) (by kernel_rfl) (by kernel_rfl)) ?_
  intro W base args ds gs before hval0 hW hcnd _
  have hval : ∀ (j : Nat) t v, Tryz.f4.params[j]? = some t → args[j]? = some v → Value.okWide Tryz.prog W .any base t v := hval0
  have hW' := hW
  obtain ⟨p, q, hA0, hV, rfl, hfz, hnd⟩ := hW
  have hA : DataW.TrodAll enc Tryz.prog W 0 (fun _ => true) true Tryz.f4.params.toList args.toList ds p := hA0
  rw [Tryz.params4] at hA hval
  have hAA := hA
  obtain ⟨v0, vs0, d0, ds0, p0, q0, hargs, rfl, rfl, h0, r0⟩ := trodAll_cons hA
  obtain ⟨v1, vs1, d1, ds1, p1, q1, rfl, rfl, rfl, h1, r1⟩ := trodAll_cons r0
  obtain ⟨rfl, rfl, rfl⟩ := trodAll_nil r1
  obtain rfl : args = #[v0, v1] := by cases args; simp_all
  obtain ⟨rfl, rfl⟩ := trodVars_none hV
  have o0 := open_regB (hval 0 24 v0 rfl rfl) h0
  have o1 := open_i64 (hval 1 3 v1 rfl rfl) h1
  have hlt : ∀ x ∈ p0 ++ (p1 ++ []), x.block < W.heap.size := fun x hx => hW'.lt x (by simpa using hx)
  refine (topWalls_walk W _ o0 _ o1).mono fun e W' ⟨he, bel⟩ => ?_
  subst he
  exact ⟨_, rfl, _, _, _, [], _, [], hW', trodAll_mk1 (shut_bool Tryz.underlying4 _), below_trodAll laidOut bel _ _ _ _ (by
    intro t ht
    have hcl : ([24, 3] : List TypeId).all (fun t => Tryz.prog.readableRec t && decide (t < Tryz.prog.types.size)) = true := by kernel_rfl
    have := List.all_eq_true.1 hcl t ht
    simpa using this) hlt hAA, rfl, bel.frame _, fun h => by cases h⟩
theorem topWalls_heard : (Tryz.checked.prog.stopsHeard = true ∧ Tryz.checked.prog.mayEnter = true) ∧ Tryz.checked.prog.liftsFinal = Rows.topWallsRow.lifted := ⟨⟨by kernel_rfl, by kernel_rfl⟩, by kernel_rfl⟩
theorem topWalls_calls : (Tryz.checked.prog.inPlace 4 = Rows.topWallsRow.inPlace ∧ Tryz.checked.prog.unfollowed 4 = Rows.topWallsRow.unfollowed) ∧ (Tryz.checked.prog.recurses 4 = Rows.topWallsRow.recurses ∧ Tryz.checked.prog.varsNamed 4 = Rows.topWallsRow.named) := ⟨⟨by kernel_rfl, by kernel_rfl⟩, ⟨by kernel_rfl, by kernel_rfl⟩⟩
theorem topWalls_closed : joinedFacts Tryz.checked.prog 4 Tryz.f4 Rows.topWallsSpec Rows.topWallsRow = true := by
  unfold joinedFacts
  rw [topWalls_calls.1.1, topWalls_calls.1.2, topWalls_calls.2.1, topWalls_calls.2.2, topWalls_heard.1.1, topWalls_heard.1.2, topWalls_heard.2]
  kernel_rfl
/-- TopWalls: for every input the call returns true, and the arguments read behind it as before. No condition. -/
theorem topWalls_holds : Rows.TopWallsSaid :=
  OpenClaim.holds_of_wide 4 Tryz.f4 rfl rfl rfl rfl rfl rfl rfl ⟨rfl, rfl, rfl, rfl, rfl⟩ rfl rfl rfl rfl rfl (by kernel_rfl) Tryz.func4 topWalls_closed
    (of_decide_eq_true (by kernel_rfl)) (by unfold Func.isWrapper; rw [if_neg (of_decide_eq_false (by kernel_rfl))]; exact ⟨rfl, rfl⟩)
    (fun os started H enc _ => topWalls_lifted os started H enc)

end Go.Proofs.YtneelidbgigehaaGreat

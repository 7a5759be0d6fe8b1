/- What Supports of the program returns: the whole. -/
import Derived.Test.YtlhmopndnohnhaaSupWalkP
namespace Go.Proofs.Ytlhmopndnohnhaa
set_option linter.unusedSimpArgs false
set_option linter.unusedVariables false
open Go.RowKit Runs Reg
attribute [local go_sem] Kin.cell Kin.frozen Kin.lt0 Kin.lt1 Kin.lt2 Kin.lt3 run_mkf
set_option maxRecDepth 100000 in
set_option maxHeartbeats 16000000 in
theorem sup_any (v : Value) (rs : List (List Reg.Row)) (R G : Int) (w : World) (h : RdRegs w v rs) (hbd : ∀ r ∈ rs, RBd r) (hlen : rs.length ≤ 256) :
    Calls Try.prog 15 #[v, .int .i64 R, .int .i64 G] w fun e w' => (∃ A n c, e = .returned (.tuple #[.slice A n c, .int .i64 (supE rs R G)]) ∧ RdRegs w' (.slice A n c) (supR rs R G)) ∧ Below w.heap.size w w' := by
  obtain ⟨L, capL, rfl, hcapL, hop⟩ := regs_open h
  have H := Lib.hid h
  have HOP := Lib.hid hop
  have Hbd := Lib.hid hbd
  clear h hop hbd
  go_enter Try.func15, Try.ntmps15
  go_wp2
  obtain ⟨y0, hX⟩ : ∃ y0 : Kin w, y0.1 = ((w.alloc (.cells #[.slice L rs.length capL] 32)).alloc (.cells #[.int .i64 R] 3)).alloc (.cells #[.int .i64 G] 3) := ⟨⟨((w.alloc (.cells #[.slice L rs.length capL] 32)).alloc (.cells #[.int .i64 R] 3)).alloc (.cells #[.int .i64 G] 3), (by repeat (first | with_reducible exact Below.refl _ _ | with_reducible exact Nat.le_refl _ | with_reducible refine Kin.below _ ?_ | with_reducible refine Below.alloc ?_ ?_ _ | with_reducible refine Below.drew ?_ | with_reducible refine Kin.le _ ?_ | with_reducible refine le_alloc ?_ _ | with_reducible refine le_drew ?_ | with_reducible refine Below.setCell ?_ ?_ _ | with_reducible exact Nat.le_refl _ | (simp only [World.size_alloc]; omega) | (simp <;> omega)))⟩, rfl⟩
  rw [← hX]
  have b1 := Blk.new w 32 #[.slice L rs.length capL]
  have b2 := Blk.new (w.alloc (.cells #[.slice L rs.length capL] 32)) 3 #[.int .i64 R]
  have b3 := Blk.new ((w.alloc (.cells #[.slice L rs.length capL] 32)).alloc (.cells #[.int .i64 R] 3)) 3 #[.int .i64 G]
  have b1 := (b1.below (Below.alloc (Below.refl _ _) (Nat.le_refl _) (.cells #[.int .i64 R] 3))).below (Below.alloc (Below.refl _ _) (Nat.le_refl _) (.cells #[.int .i64 G] 3))
  have b2 := b2.below (Below.alloc (Below.refl _ _) (Nat.le_refl _) (.cells #[.int .i64 G] 3))
  rw [← hX] at b1 b2 b3
  simp only [World.size_alloc] at b2 b3
  have B1 := Lib.hid b1
  have B2 := Lib.hid b2
  have B3 := Lib.hid b3
  have cl : y0.1.cell? ⟨w.heap.size, 0, none⟩ = some (.slice L rs.length capL) := b1.cell 0
  have cr : y0.1.cell? ⟨w.heap.size + 1, 0, none⟩ = some (.int .i64 R) := b2.cell 0
  have cg : y0.1.cell? ⟨w.heap.size + 1 + 1, 0, none⟩ = some (.int .i64 G) := b3.cell 0
  have ll := b1.lt
  have lr := b2.lt
  have lg := b3.lt
  have hw0 : Below w.heap.size w y0.1 := y0.2
  clear hX b1 b2 b3
  go_loopw [19] (fun i wr => ∃ k : Nat, k ≤ rs.length ∧ i = .int .i64 k ∧ Hid ((rs.take k).all rvalid = true) ∧ ∃ z : Kin y0.1, z.1 = wr) (fun i _ => rs.length - (intOf i).toNat)
  case atStart => exact ⟨0, Nat.zero_le _, rfl, Lib.hid (by simp), ⟨_, Below.refl _ _⟩, rfl⟩
  case round =>
    obtain ⟨k, hk, rfl, HV, z, rfl⟩ := hrel
    by_cases hlt : k < rs.length
    · obtain ⟨r, hr⟩ : ∃ el_, rs[k]? = some el_ := ⟨_, List.getElem?_eq_getElem hlt⟩
      obtain ⟨bL, offL, rfl, hbL, hc⟩ := HOP.out k _ hr
      obtain ⟨S, n, c, h1, h2⟩ := hc k r hr
      have HRD := Lib.hid h2
      have Hr := Lib.hid hr
      have HB := Lib.hid (Hbd.out r (List.mem_of_getElem? hr))
      have h1' : y0.1.cell? ⟨bL, offL + k, none⟩ = some (.slice S n c) := (y0.cell hbL).trans h1
      have hbL0 := y0.lt0 hbL
      clear hr hc h2
      cases hv : rvalid r
      · have HE := Lib.hid (supE_bad (rs := rs) (R := R) (G := G) (by
          have : rs.all rvalid = false := by rw [List.all_eq_false]; exact ⟨r, List.mem_of_getElem? Hr.out, by simp [hv]⟩
          rw [this]; rfl))
        go_wp2_with (go_at_call 28; (with_reducible refine (Kin.callK (W := (Kin.wd y0)) (by repeat (first | with_reducible exact Below.refl _ _ | with_reducible exact Nat.le_refl _ | with_reducible refine Kin.below _ ?_ | with_reducible refine Below.alloc ?_ ?_ _ | with_reducible refine Below.drew ?_ | with_reducible refine Kin.le _ ?_ | with_reducible refine le_alloc ?_ _ | with_reducible refine le_drew ?_ | with_reducible refine Below.setCell ?_ ?_ _ | with_reducible exact Nat.le_refl _ | (simp only [World.size_alloc]; omega) | (simp <;> omega))) (rvalid_is _ r _ (HRD.out.below (by repeat (first | with_reducible exact Below.refl _ _ | with_reducible exact Nat.le_refl _ | with_reducible refine Kin.below _ ?_ | with_reducible refine Below.alloc ?_ ?_ _ | with_reducible refine Below.drew ?_ | with_reducible refine Kin.le _ ?_ | with_reducible refine le_alloc ?_ _ | with_reducible refine le_drew ?_ | with_reducible refine Below.setCell ?_ ?_ _ | with_reducible exact Nat.le_refl _ | (simp only [World.size_alloc]; omega) | (simp <;> omega)))) HB.out hv)).mono ?_); rintro e w' ⟨z, rfl, hz, rfl⟩)
        go_ret2
        rw [HE.out.1, HE.out.2]
        exact ⟨⟨_, _, _, rfl, RdRegs.nil⟩, (by repeat (first | with_reducible exact Below.refl _ _ | with_reducible exact Nat.le_refl _ | with_reducible refine Kin.below _ ?_ | with_reducible refine Below.alloc ?_ ?_ _ | with_reducible refine Below.drew ?_ | with_reducible refine Kin.le _ ?_ | with_reducible refine le_alloc ?_ _ | with_reducible refine le_drew ?_ | with_reducible refine Below.setCell ?_ ?_ _ | with_reducible exact Nat.le_refl _ | (simp only [World.size_alloc]; omega) | (simp <;> omega)))⟩
      · go_wp2_with (go_at_call 28; (with_reducible refine (Kin.callK (W := (Kin.wd y0)) (by repeat (first | with_reducible exact Below.refl _ _ | with_reducible exact Nat.le_refl _ | with_reducible refine Kin.below _ ?_ | with_reducible refine Below.alloc ?_ ?_ _ | with_reducible refine Below.drew ?_ | with_reducible refine Kin.le _ ?_ | with_reducible refine le_alloc ?_ _ | with_reducible refine le_drew ?_ | with_reducible refine Below.setCell ?_ ?_ _ | with_reducible exact Nat.le_refl _ | (simp only [World.size_alloc]; omega) | (simp <;> omega))) (rvalid_is _ r _ (HRD.out.below (by repeat (first | with_reducible exact Below.refl _ _ | with_reducible exact Nat.le_refl _ | with_reducible refine Kin.below _ ?_ | with_reducible refine Below.alloc ?_ ?_ _ | with_reducible refine Below.drew ?_ | with_reducible refine Kin.le _ ?_ | with_reducible refine le_alloc ?_ _ | with_reducible refine le_drew ?_ | with_reducible refine Below.setCell ?_ ?_ _ | with_reducible exact Nat.le_refl _ | (simp only [World.size_alloc]; omega) | (simp <;> omega)))) HB.out hv)).mono ?_); rintro e w' ⟨zv, rfl, hzv, rfl⟩; skip)
        go_roundw
        case rel => exact ⟨k + 1, by omega, by go_num, Lib.hid (by rw [List.take_add_one, Hr.out]; simp [HV.out, hv]), zv, rfl⟩
        case measure => simp [intOf]; omega
    · have hall : rs.all rvalid = true := by have := HV.out; rwa [show k = rs.length by omega, List.take_length] at this
      have HALL := Lib.hid hall
      by_cases hR : reachOk R = true ∧ reachOk G = true
      · have HOKA := Lib.hid (show (rs.all rvalid && reachOk R && reachOk G) = true by rw [hall, hR.1, hR.2]; rfl)
        have HR1 := Lib.hid hR.1
        have HR2 := Lib.hid hR.2
        obtain ⟨r0, r1⟩ := reach_iff.1 hR.1
        obtain ⟨g0, g1⟩ := reach_iff.1 hR.2
        have r0' : ¬ R < 0 := by omega
        have r1' : ¬ 64 < R := by omega
        have g0' : ¬ G < 0 := by omega
        have g1' : ¬ 64 < G := by omega
        clear HV hall hR
        have hwn : IntKind.i64.wrap ((rs.length : Int) - 2) = (rs.length : Int) - 2 := IntWalk.i64_in _ (by omega)
        go_wp2_with (at_make; refine wpList_mk _ rfl _ _ 32 rfl encReg_len (by decide) (none, 0, 0) y0.1.heap.size 24 (.agg #[.slice none 0 0]) 24 rfl infoReg Try.underlying32 .i64 .i64 _ _ (rs.length) rfl rfl (by omega) (by omega) (by omega) (by decide) (by repeat (first | with_reducible exact Nat.le_refl _ | assumption | with_reducible refine le_alloc ?_ _ | with_reducible refine le_drew ?_ | with_reducible refine Kin.le _ ?_ | assumption | omega | (simp only [World.size_alloc]; omega))) ?_; intro w1 hmk hmb hmlt; (obtain ⟨y, rfl⟩ : ∃ y : Kin y0.1, y.1 = w1 := ⟨⟨w1, Below.trans (by repeat (first | with_reducible exact Below.refl _ _ | with_reducible exact Nat.le_refl _ | with_reducible refine Kin.below _ ?_ | with_reducible refine Below.alloc ?_ ?_ _ | with_reducible refine Below.drew ?_ | with_reducible refine Kin.le _ ?_ | with_reducible refine le_alloc ?_ _ | with_reducible refine le_drew ?_ | with_reducible refine Below.setCell ?_ ?_ _ | with_reducible exact Nat.le_refl _ | (simp only [World.size_alloc]; omega) | (simp <;> omega))) (hmb.mono (by repeat (first | with_reducible exact Nat.le_refl _ | assumption | with_reducible refine le_alloc ?_ _ | with_reducible refine le_drew ?_ | with_reducible refine Kin.le _ ?_ | assumption | omega | (simp only [World.size_alloc]; omega))))⟩, rfl⟩); clear hmb)
        have HM := Lib.hid (OwnRegs.made hmk)
        have hzs : y0.1.heap.size ≤ z.1.heap.size := z.2.size
        clear hmk
        obtain ⟨y9, hX⟩ : ∃ y9 : Kin y0.1, y9.1 = y.1.alloc (.cells #[.slice (some ⟨z.1.heap.size, 0, none⟩) rs.length rs.length] 32) := ⟨⟨y.1.alloc (.cells #[.slice (some ⟨z.1.heap.size, 0, none⟩) rs.length rs.length] 32), (by repeat (first | with_reducible exact Below.refl _ _ | with_reducible exact Nat.le_refl _ | with_reducible refine Kin.below _ ?_ | with_reducible refine Below.alloc ?_ ?_ _ | with_reducible refine Below.drew ?_ | with_reducible refine Kin.le _ ?_ | with_reducible refine le_alloc ?_ _ | with_reducible refine le_drew ?_ | with_reducible refine Below.setCell ?_ ?_ _ | with_reducible exact Nat.le_refl _ | (simp only [World.size_alloc]; omega) | (simp <;> omega)))⟩, rfl⟩
        rw [← hX]
        have hyy : Below y.1.heap.size y.1 y9.1 := by rw [hX]; exact (by repeat (first | with_reducible exact Below.refl _ _ | with_reducible exact Nat.le_refl _ | with_reducible refine Kin.below _ ?_ | with_reducible refine Below.alloc ?_ ?_ _ | with_reducible refine Below.drew ?_ | with_reducible refine Kin.le _ ?_ | with_reducible refine le_alloc ?_ _ | with_reducible refine le_drew ?_ | with_reducible refine Below.setCell ?_ ?_ _ | with_reducible exact Nat.le_refl _ | (simp only [World.size_alloc]; omega) | (simp <;> omega)))
        have b4 := Blk.new y.1 32 #[.slice (some ⟨z.1.heap.size, 0, none⟩) rs.length rs.length]
        rw [← hX] at b4
        have B4 := Lib.hid b4
        have lv := b4.lt
        have HM9 := Lib.hid (HM.out.below hyy)
        have hgv : z.1.heap.size ≠ y.1.heap.size := Nat.ne_of_lt HM.out.lt.2
        have B19 := Lib.hid (B1.out.below y9.2)
        have B29 := Lib.hid (B2.out.below y9.2)
        have B39 := Lib.hid (B3.out.below y9.2)
        have hw9 : Below w.heap.size w y9.1 := hw0.trans (y9.2.mono hw0.size)
        clear hX b4 hyy HM
        go_loopw [12] (fun i wr => ∃ (m : Nat) (I : Int), Hid (m ≤ rs.length - 1 ∧ I = (rs.length : Int) - 2 - (m : Int)) ∧ i = .int .i64 I ∧ Hid (OwnRegs y0.1.heap.size wr z.1.heap.size rs.length (supL rs R G m)) ∧ Hid (∀ j, rs.length - 1 - m ≤ j → j < rs.length - 1 → supOk rs R G j = true) ∧ Hid (y9.1.grownBy wr (some z.1.heap.size)) ∧ Hid (Below w.heap.size w wr)) (fun i _ => (intOf i + 1).toNat)
        case atStart => exact ⟨0, _, Lib.hid ⟨Nat.zero_le _, by simp⟩, rfl, by rw [supL_zero]; exact HM9, Lib.hid (fun j h1 h2 => by omega), Lib.hid (World.grownBy.refl _ _), Lib.hid hw9⟩
        case round =>
          clear HM9 hmlt
          obtain ⟨m, I, HI, rfl, HO, HS, HG9, hyB⟩ := hrel
          obtain ⟨y6, rfl⟩ : ∃ y6 : Kin w, y6.1 = wr := ⟨⟨wr, hyB.out⟩, rfl⟩
          clear hyB
          have n1 : w.heap.size ≠ z.1.heap.size := Nat.ne_of_lt (Nat.lt_of_lt_of_le ll hzs)
          have n2 : w.heap.size + 1 ≠ z.1.heap.size := Nat.ne_of_lt (Nat.lt_of_lt_of_le lr hzs)
          have n3 : w.heap.size + 1 + 1 ≠ z.1.heap.size := Nat.ne_of_lt (Nat.lt_of_lt_of_le lg hzs)
          have D1 := Lib.hid (B19.out.grown HG9.out (fun e => n1 (Option.some.inj e)))
          have D2 := Lib.hid (B29.out.grown HG9.out (fun e => n2 (Option.some.inj e)))
          have D3 := Lib.hid (B39.out.grown HG9.out (fun e => n3 (Option.some.inj e)))
          have D4 := Lib.hid (B4.out.grown HG9.out (fun e => hgv (Option.some.inj e).symm))
          by_cases hge : 0 ≤ I
          · obtain ⟨i, rfl⟩ : ∃ i : Nat, I = (i : Int) := ⟨I.toNat, by omega⟩
            have hi1 : i + 1 < rs.length := by have := HI.out; omega
            have HMI := Lib.hid (show m + 2 ≤ rs.length ∧ i = rs.length - 2 - m by have := HI.out; omega)
            have hwd : IntKind.i64.wrap ((i : Int) - 1) = (i : Int) - 1 := IntWalk.i64_in _ (by omega)
            obtain ⟨r, hr⟩ : ∃ el_, rs[i]? = some el_ := ⟨_, List.getElem?_eq_getElem (by omega)⟩
            obtain ⟨bL, offL, rfl, hbL, hc⟩ := HOP.out i _ hr
            have hv0 : rvalid r = true := List.all_eq_true.1 HALL.out r (List.mem_of_getElem? hr)
            have hE1 := dilE_two (rows := r) (k := R) (by rw [HR1.out, hv0]; rfl)
            have hE2 := dilE_two (rows := r) (k := G) (by rw [HR2.out, hv0]; rfl)
            have hrs := rsAt_some hr
            have HOPx := Lib.hid (show ∀ x : World, Below w.heap.size w x → ∀ (i : Nat) (r : List Reg.Row), rs[i]? = some r → ∃ (S : Option Addr) (n c : Nat), x.cell? ⟨bL, offL + i, none⟩ = some (.slice S n c) ∧ RdReg x (.agg #[.slice S n c]) r from fun x hx i r hr => by
              obtain ⟨S, n, c, h1, h2⟩ := hc i r hr
              exact ⟨S, n, c, (hx.cell (p := ⟨bL, _, none⟩) hbL).trans h1, h2.below hx⟩)
            clear hr hc
            by_cases hok : supOk rs R G i = true
            · have hok2 := hok
              unfold supOk at hok2
              rw [Bool.and_eq_true, decide_eq_true_eq, decide_eq_true_eq] at hok2
              have HK := Lib.hid hok
              have HK2 := Lib.hid hok2
              clear hE1 hE2 hrs hok hok2 hv0
              have HCC := Lib.hid (supBelow_ok rs R G i m bL offL capL w.heap.size (w.heap.size + 1) (w.heap.size + 1 + 1) y.1.heap.size y0.1.heap.size z.1.heap.size y6.1 (D1.out.cell 0) (D2.out.cell 0) (D3.out.cell 0) (D4.out.cell 0) D1.out.lt D2.out.lt D3.out.lt D4.out.lt (HOPx.out _ y6.2) (Nat.lt_of_lt_of_le hbL y6.2.size) hlen HALL.out HR1.out HR2.out HMI.out.1 HMI.out.2 HO.out hgv HK2.out.1 HK2.out.2)
              go_wp2_with (go_at_call 33; (with_reducible refine HCC.out.mono ?_); rintro e w' ⟨rfl, ho, hg⟩; have HO2 := Lib.hid ho; have HG2 := Lib.hid hg; clear ho hg)
              go_roundw
              case rel => exact ⟨m + 1, (i : Int) - 1, Lib.hid (by have := HMI.out; omega), rfl, HO2, Lib.hid (fun q h1 h2 => by
                  by_cases hq : q = i
                  · subst hq; exact HK.out
                  · exact HS.out q (by have := HMI.out; omega) h2), Lib.hid (grownBy_trans HG9.out HG2.out), Lib.hid (y6.2.trans (grownBy_below HG2.out y6.2.size (Nat.le_trans hw0.size hzs)))⟩
              case measure => simp [intOf] <;> omega
            · have hok : supOk rs R G i = false := by simpa using hok
              have HE := Lib.hid (supE_far HOKA.out (show i < rs.length - 1 by omega) hok)
              have hD : dilE (rsAt rs i) R = 8 ∨ (dilE (rsAt rs i) R = 0 ∧ dilE (rsAt rs i) G = 8) := by
                unfold supOk at hok
                rw [hrs] at hok ⊢
                rcases hE1 with e1 | e1
                · rcases hE2 with e2 | e2
                  · rw [e1, e2] at hok; simp at hok
                  · exact .inr ⟨e1, e2⟩
                · exact .inl e1
              have HDD := Lib.hid hD
              clear hE1 hE2 hrs hok hv0 hD
              have HCC := Lib.hid (supBelow_far rs R G i m bL offL capL w.heap.size (w.heap.size + 1) (w.heap.size + 1 + 1) y.1.heap.size y0.1.heap.size z.1.heap.size y6.1 (D1.out.cell 0) (D2.out.cell 0) (D3.out.cell 0) (D4.out.cell 0) D1.out.lt D2.out.lt D3.out.lt D4.out.lt (HOPx.out _ y6.2) (Nat.lt_of_lt_of_le hbL y6.2.size) hlen HALL.out HR1.out HR2.out HMI.out.1 HMI.out.2 HO.out hgv HDD.out)
              go_wp2_with (go_at_call 33; (with_reducible refine HCC.out.mono ?_); rintro e w' ⟨rfl, hb⟩; have HB7 := Lib.hid hb; clear hb)
              go_ret2
              rw [HE.out.1, HE.out.2]
              exact ⟨⟨_, _, _, rfl, RdRegs.nil⟩, y6.2.trans (HB7.out.mono y6.2.size)⟩
          · have HE := Lib.hid (supE_ok HOKA.out (fun q hq => HS.out q (by have := HI.out; omega) hq))
            have HM := Lib.hid (show supL rs R G m = supL rs R G (rs.length - 1) from by
              by_cases h0 : rs.length - 1 ≤ m
              · rw [show m = rs.length - 1 by have := HI.out; omega]
              · exfalso; have := HI.out; omega)
            have d4 : y6.1.cell? ⟨y.1.heap.size, 0, none⟩ = some (.slice (some ⟨z.1.heap.size, 0, none⟩) rs.length rs.length) := D4.out.cell 0
            have d4l := D4.out.lt
            go_wp2
            go_ret2
            rw [HE.out.1, HE.out.2, ← HM.out]
            exact ⟨⟨_, _, _, rfl, HO.out.rd⟩, y6.2⟩
      · have HE := Lib.hid (supE_bad (rs := rs) (R := R) (G := G) (by rw [hall]; cases h1 : reachOk R <;> cases h2 : reachOk G <;> simp_all))
        have hc : R < 0 ∨ (¬ R < 0 ∧ 64 < R) ∨ (¬ R < 0 ∧ ¬ 64 < R ∧ G < 0) ∨ (¬ R < 0 ∧ ¬ 64 < R ∧ ¬ G < 0 ∧ 64 < G) := by
          have : ¬ (0 ≤ R ∧ R ≤ 64 ∧ 0 ≤ G ∧ G ≤ 64) := fun h => hR ⟨reach_iff.2 ⟨h.1, h.2.1⟩, reach_iff.2 ⟨h.2.2.1, h.2.2.2⟩⟩
          omega
        clear HV hall hR HALL
        rcases hc with c1 | ⟨c1, c2⟩ | ⟨c1, c2, c3⟩ | ⟨c1, c2, c3, c4⟩
        all_goals
          go_wp2
          go_ret2
          rw [HE.out.1, HE.out.2]
          exact ⟨⟨_, _, _, rfl, RdRegs.nil⟩, (by repeat (first | with_reducible exact Below.refl _ _ | with_reducible exact Nat.le_refl _ | with_reducible refine Kin.below _ ?_ | with_reducible refine Below.alloc ?_ ?_ _ | with_reducible refine Below.drew ?_ | with_reducible refine Kin.le _ ?_ | with_reducible refine le_alloc ?_ _ | with_reducible refine le_drew ?_ | with_reducible refine Below.setCell ?_ ?_ _ | with_reducible exact Nat.le_refl _ | (simp only [World.size_alloc]; omega) | (simp <;> omega)))⟩
end Go.Proofs.Ytlhmopndnohnhaa

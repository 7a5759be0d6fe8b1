/- What the chapter's Supports returns. -/
import Derived.Test.YtlhmopndnohnhaaSupKit
namespace Go.Proofs.Ytlhmopndnohnhaa
set_option linter.unusedSimpArgs false
set_option linter.unusedVariables false
open Go.RowKit Runs Reg
attribute [local go_sem] Kin.cell Kin.frozen Kin.lt0 Kin.lt1 Kin.lt2 Kin.lt3 run_mkf
/-- a block that was made in the world that a call got -/
theorem new_in1 {y z : World} {t : TypeId} {cs : Array Value} (h : Below ((y.drew).alloc (.cells cs t)).heap.size ((y.drew).alloc (.cells cs t)) z) : Blk z y.heap.size t cs := (Blk.new y.drew t cs).below h
theorem new_in2 {y z : World} {t : TypeId} {cs : Array Value} (h : Below ((y.alloc (.cells cs t)).drew).heap.size ((y.alloc (.cells cs t)).drew) z) : Blk z y.heap.size t cs := Blk.below (w := (y.alloc (.cells cs t)).drew) (Blk.new y t cs) h
theorem cell_off {W : World} {g i j : Nat} {u v : Value} (h : W.cell? ⟨g, j, none⟩ = some v) (hne : i ≠ j) : (W.setCell ⟨g, i, none⟩ u).cell? ⟨g, j, none⟩ = some v :=
by
  have hn : (⟨g, i, none⟩ : Addr) ≠ ⟨g, j, none⟩ := fun e => hne (by injection e)
  rw [World.cell?_setCell_other (h := hn)]; exact h
theorem cell_blk {W : World} {g p i j : Nat} {u v : Value} (h : W.cell? ⟨p, j, none⟩ = some v) (hne : g ≠ p) : (W.setCell ⟨g, i, none⟩ u).cell? ⟨p, j, none⟩ = some v :=
by
  have hn : (⟨g, i, none⟩ : Addr) ≠ ⟨p, j, none⟩ := fun e => hne (by injection e)
  rw [World.cell?_setCell_other (h := hn)]; exact h
theorem oneReg : OneC encReg := fun x u hu => by simp [encReg] at hu; subst hu; rfl
theorem infoReg : (Try.prog.info? 24).map (fun i => (i.zero, i.size, i.bytes)) = some (some (.agg #[.slice none 0 0]), 1, 24) := by kernel_rfl
theorem rov_is {E : Int} (v u : Value) (r b : List Reg.Row) (k : Int) (w : World) (h : RdReg w v r) (hbd : RBd r) (h2 : RdReg w u b) (hbd2 : RBd b) (hE : ovE r b k = E) :
    Calls Try.prog 12 #[v, u, .int .i64 k] w fun e w' => (∃ A n c, e = .returned (.tuple #[.agg #[.slice A n c], .int .i64 E]) ∧ RdReg w' (.agg #[.slice A n c]) (ovR r b k)) ∧ Below w.heap.size w w' := by
  subst hE; exact rov_any v u r b k w h hbd h2 hbd2
theorem ov_is {E : Int} (v u : Value) (r b : List Reg.Row) (k : Int) (w : World) (h : RdReg w v r) (hbd : RBd r) (h2 : RdReg w u b) (hbd2 : RBd b) (hE : ovE r b k = E) :
    Calls Try.prog 11 #[v, u, .int .i64 k] w fun e w' => (∃ A n c, e = .returned (.tuple #[.agg #[.slice A n c], .int .i64 E]) ∧ RdReg w' (.agg #[.slice A n c]) (ovR r b k)) ∧ Below w.heap.size w w' := by
  subst hE; exact ov_any v u r b k w h hbd h2 hbd2
theorem supE_bad {rs : List (List Reg.Row)} {R G : Int} (h : (rs.all rvalid && reachOk R && reachOk G) = false) : supE rs R G = 1 ∧ supR rs R G = [] := by
  have e : supE rs R G = 1 := by unfold supE; rw [if_pos h]
  exact ⟨e, by unfold supR; rw [if_neg (by rw [e]; decide)]⟩
theorem supE_far {rs : List (List Reg.Row)} {R G : Int} (h : (rs.all rvalid && reachOk R && reachOk G) = true) {i : Nat} (hi : i < rs.length - 1) (hn : supOk rs R G i = false) : supE rs R G = 8 ∧ supR rs R G = [] := by
  have e : supE rs R G = 8 := by
    unfold supE
    rw [if_neg (by rw [h]; decide), if_neg]
    intro h2
    have := List.all_eq_true.1 h2 i (List.mem_range.2 hi)
    rw [hn] at this; cases this
  exact ⟨e, by unfold supR; rw [if_neg (by rw [e]; decide)]⟩
theorem supE_ok {rs : List (List Reg.Row)} {R G : Int} (h : (rs.all rvalid && reachOk R && reachOk G) = true) (hn : ∀ i, i < rs.length - 1 → supOk rs R G i = true) : supE rs R G = 0 ∧ supR rs R G = supL rs R G (rs.length - 1) := by
  have e : supE rs R G = 0 := by
    unfold supE
    rw [if_neg (by rw [h]; decide), if_pos]
    rw [List.all_eq_true]
    intro i hi
    exact hn i (List.mem_range.1 hi)
  exact ⟨e, by unfold supR; rw [if_pos e]⟩
theorem ovE_valid {r b : List Reg.Row} {k : Int} (h : rvalid r = true) : ovE r b k = dilE b k := by unfold ovE; rw [if_pos h]
set_option maxRecDepth 100000 in
set_option maxHeartbeats 16000000 in
theorem rsup_any (v : Value) (rs : List (List Reg.Row)) (R G : Int) (w : World) (h : RdRegs w v rs) (hbd : ∀ r ∈ rs, RBd r) (hlen : rs.length ≤ 256) :
    Calls Try.prog 16 #[v, .int .i64 R, .int .i64 G] w fun e w' => (∃ A n c, e = .returned (.tuple #[.slice A n c, .int .i64 (supE rs R G)]) ∧ RdRegs w' (.slice A n c) (supR rs R G)) ∧ Below w.heap.size w w' := by
  obtain ⟨L, capL, rfl, hcapL, hop⟩ := regs_open h
  have H := Lib.hid h
  have HOP := Lib.hid hop
  have Hbd := Lib.hid hbd
  clear h hop hbd
  go_enter Try.func16, Try.ntmps16
  go_wp2
  go_loopw [8] (fun i wr => ∃ k : Nat, k ≤ rs.length ∧ i = .int .i64 k ∧ Hid ((rs.take k).all rvalid = true) ∧ ∃ z : Kin w, z.1 = wr) (fun i _ => rs.length - (intOf i).toNat)
  case atStart => exact ⟨0, Nat.zero_le _, rfl, Lib.hid (by simp), ⟨w, Below.refl _ _⟩, rfl⟩
  case round =>
    obtain ⟨k, hk, rfl, HV, z, rfl⟩ := hrel
    by_cases hlt : k < rs.length
    · obtain ⟨r, hr⟩ : ∃ el_, rs[k]? = some el_ := ⟨_, List.getElem?_eq_getElem hlt⟩
      obtain ⟨bL, offL, rfl, hbL, hc⟩ := HOP.out k _ hr
      obtain ⟨S, n, c, h1, h2⟩ := hc k r hr
      have HRD := Lib.hid h2
      have Hr := Lib.hid hr
      have HB := Lib.hid (Hbd.out r (List.mem_of_getElem? hr))
      clear hr hc h2
      cases hv : rvalid r
      · have HE := Lib.hid (supE_bad (rs := rs) (R := R) (G := G) (by
          have : rs.all rvalid = false := by rw [List.all_eq_false]; exact ⟨r, List.mem_of_getElem? Hr.out, by simp [hv]⟩
          rw [this]; rfl))
        go_wp2_with (go_at_call 30; (with_reducible refine (Kin.callK (W := w) (by repeat (first | with_reducible exact Below.refl _ _ | with_reducible exact Nat.le_refl _ | with_reducible refine Kin.below _ ?_ | with_reducible refine Below.alloc ?_ ?_ _ | with_reducible refine Below.drew ?_ | with_reducible refine Kin.le _ ?_ | with_reducible refine le_alloc ?_ _ | with_reducible refine le_drew ?_ | with_reducible refine Below.setCell ?_ ?_ _ | with_reducible exact Nat.le_refl _ | (simp only [World.size_alloc]; omega) | (simp <;> omega))) (valid18_is _ r _ (HRD.out.below (by repeat (first | with_reducible exact Below.refl _ _ | with_reducible exact Nat.le_refl _ | with_reducible refine Kin.below _ ?_ | with_reducible refine Below.alloc ?_ ?_ _ | with_reducible refine Below.drew ?_ | with_reducible refine Kin.le _ ?_ | with_reducible refine le_alloc ?_ _ | with_reducible refine le_drew ?_ | with_reducible refine Below.setCell ?_ ?_ _ | with_reducible exact Nat.le_refl _ | (simp only [World.size_alloc]; omega) | (simp <;> omega)))) HB.out hv)).mono ?_); rintro e w' ⟨z, rfl, hz, rfl⟩)
        go_ret2
        rw [HE.out.1, HE.out.2]
        exact ⟨⟨_, _, _, rfl, RdRegs.nil⟩, (by repeat (first | with_reducible exact Below.refl _ _ | with_reducible exact Nat.le_refl _ | with_reducible refine Kin.below _ ?_ | with_reducible refine Below.alloc ?_ ?_ _ | with_reducible refine Below.drew ?_ | with_reducible refine Kin.le _ ?_ | with_reducible refine le_alloc ?_ _ | with_reducible refine le_drew ?_ | with_reducible refine Below.setCell ?_ ?_ _ | with_reducible exact Nat.le_refl _ | (simp only [World.size_alloc]; omega) | (simp <;> omega)))⟩
      · go_wp2_with (go_at_call 30; (with_reducible refine (Kin.callK (W := w) (by repeat (first | with_reducible exact Below.refl _ _ | with_reducible exact Nat.le_refl _ | with_reducible refine Kin.below _ ?_ | with_reducible refine Below.alloc ?_ ?_ _ | with_reducible refine Below.drew ?_ | with_reducible refine Kin.le _ ?_ | with_reducible refine le_alloc ?_ _ | with_reducible refine le_drew ?_ | with_reducible refine Below.setCell ?_ ?_ _ | with_reducible exact Nat.le_refl _ | (simp only [World.size_alloc]; omega) | (simp <;> omega))) (valid18_is _ r _ (HRD.out.below (by repeat (first | with_reducible exact Below.refl _ _ | with_reducible exact Nat.le_refl _ | with_reducible refine Kin.below _ ?_ | with_reducible refine Below.alloc ?_ ?_ _ | with_reducible refine Below.drew ?_ | with_reducible refine Kin.le _ ?_ | with_reducible refine le_alloc ?_ _ | with_reducible refine le_drew ?_ | with_reducible refine Below.setCell ?_ ?_ _ | with_reducible exact Nat.le_refl _ | (simp only [World.size_alloc]; omega) | (simp <;> omega)))) HB.out hv)).mono ?_); rintro e w' ⟨z, rfl, hz, rfl⟩)
        go_roundw
        case rel => exact ⟨k + 1, by omega, by go_num, Lib.hid (by rw [List.take_add_one, Hr.out]; simp [HV.out, hv]), z, rfl⟩
        case measure => simp [intOf]; omega
    · have hall : rs.all rvalid = true := by have := HV.out; rwa [show k = rs.length by omega, List.take_length] at this
      have HALL := Lib.hid hall
      by_cases hR : reachOk R = true ∧ reachOk G = true
      · have HOKA := Lib.hid (show (rs.all rvalid && reachOk R && reachOk G) = true by rw [hall, hR.1, hR.2]; rfl)
        obtain ⟨r0, r1⟩ := reach_iff.1 hR.1
        obtain ⟨g0, g1⟩ := reach_iff.1 hR.2
        have r0' : ¬ R < 0 := by omega
        have r1' : ¬ 64 < R := by omega
        have g0' : ¬ G < 0 := by omega
        have g1' : ¬ 64 < G := by omega
        clear HV hall hR
        have hwn : IntKind.i64.wrap ((rs.length : Int) - 2) = (rs.length : Int) - 2 := IntWalk.i64_in _ (by omega)
        go_wp2_with (at_make; refine wpList_mk _ rfl _ _ 32 rfl encReg_len (by decide) (none, 0, 0) w.heap.size 24 (.agg #[.slice none 0 0]) 24 rfl infoReg Try.underlying32 .i64 .i64 _ _ (rs.length) rfl rfl (by omega) (by omega) (by omega) (by decide) (by repeat (first | with_reducible exact Nat.le_refl _ | assumption | with_reducible refine le_alloc ?_ _ | with_reducible refine le_drew ?_ | with_reducible refine Kin.le _ ?_ | assumption | omega | (simp only [World.size_alloc]; omega))) ?_; intro w1 hmk hmb hmlt; (obtain ⟨y, rfl⟩ : ∃ y : Kin w, y.1 = w1 := ⟨⟨w1, Below.trans (by repeat (first | with_reducible exact Below.refl _ _ | with_reducible exact Nat.le_refl _ | with_reducible refine Kin.below _ ?_ | with_reducible refine Below.alloc ?_ ?_ _ | with_reducible refine Below.drew ?_ | with_reducible refine Kin.le _ ?_ | with_reducible refine le_alloc ?_ _ | with_reducible refine le_drew ?_ | with_reducible refine Below.setCell ?_ ?_ _ | with_reducible exact Nat.le_refl _ | (simp only [World.size_alloc]; omega) | (simp <;> omega))) (hmb.mono (by repeat (first | with_reducible exact Nat.le_refl _ | assumption | with_reducible refine le_alloc ?_ _ | with_reducible refine le_drew ?_ | with_reducible refine Kin.le _ ?_ | assumption | omega | (simp only [World.size_alloc]; omega))))⟩, rfl⟩); clear hmb)
        have HM := Lib.hid (OwnRegs.made hmk)
        have hzs := z.2.size
        clear hmk
        go_loopw [10] (fun i wr => ∃ (m : Nat) (I : Int), Hid (m ≤ rs.length - 1 ∧ I = (rs.length : Int) - 2 - (m : Int)) ∧ i = .int .i64 I ∧ Hid (OwnRegs w.heap.size wr z.1.heap.size rs.length (supL rs R G m)) ∧ Hid (∀ j, rs.length - 1 - m ≤ j → j < rs.length - 1 → supOk rs R G j = true) ∧ Hid (Below w.heap.size w wr)) (fun i _ => (intOf i + 1).toNat)
        case atStart => exact ⟨0, _, Lib.hid ⟨Nat.zero_le _, by simp⟩, rfl, by rw [supL_zero]; exact HM, Lib.hid (fun j h1 h2 => by omega), Lib.hid y.2⟩
        case round =>
          clear HM hmlt
          obtain ⟨m, I, HI, rfl, HO, HS, hyB⟩ := hrel
          obtain ⟨y, rfl⟩ : ∃ y : Kin w, y.1 = wr := ⟨⟨wr, hyB.out⟩, rfl⟩
          clear hyB
          by_cases hge : 0 ≤ I
          · obtain ⟨i, rfl⟩ : ∃ i : Nat, I = (i : Int) := ⟨I.toNat, by omega⟩
            have hi1 : i + 1 < rs.length := by have := HI.out; omega
            have hi0 : i < rs.length := by omega
            have HMI := Lib.hid (show m + 2 ≤ rs.length ∧ i = rs.length - 2 - m ∧ i + 1 = rs.length - 1 - m by have := HI.out; omega)
            obtain ⟨rl, hrl⟩ : ∃ el_, rs[i]? = some el_ := ⟨_, List.getElem?_eq_getElem hi0⟩
            obtain ⟨ru, hru⟩ : ∃ el_, rs[i + 1]? = some el_ := ⟨_, List.getElem?_eq_getElem hi1⟩
            obtain ⟨bL, offL, rfl, hbL, hc⟩ := HOP.out i _ hrl
            obtain ⟨S0, n0, c0, e0, f0⟩ := hc i rl hrl
            obtain ⟨S1, n1, c1, e1, f1⟩ := hc (i + 1) ru hru
            have F0 := Lib.hid f0
            have F1 := Lib.hid f1
            have B0 := Lib.hid (Hbd.out rl (List.mem_of_getElem? hrl))
            have B1 := Lib.hid (Hbd.out ru (List.mem_of_getElem? hru))
            have hv0 : rvalid rl = true := List.all_eq_true.1 HALL.out rl (List.mem_of_getElem? hrl)
            have hv1 : rvalid ru = true := List.all_eq_true.1 HALL.out ru (List.mem_of_getElem? hru)
            have HRL := Lib.hid (rsAt_some hrl)
            have HRU := Lib.hid (rsAt_some hru)
            have hwi : IntKind.i64.wrap ((i : Int) + 1) = (i : Int) + 1 := IntWalk.i64_in _ (by omega)
            have hwd : IntKind.i64.wrap ((i : Int) - 1) = (i : Int) - 1 := IntWalk.i64_in _ (by omega)
            have hp1 : 0 ≤ (i : Int) + 1 := by omega
            have hp2 : ((i : Int) + 1).toNat = i + 1 := by omega
            have k0 : y.1.cell? ⟨bL, offL + i, none⟩ = some (.slice S0 n0 c0) := (y.cell hbL).trans e0
            have k1 : y.1.cell? ⟨bL, offL + (i + 1), none⟩ = some (.slice S1 n1 c1) := (y.cell hbL).trans e1
            have kl := y.lt0 hbL
            have kne : y.1.heap.size ≠ bL := Nat.ne_of_gt kl
            have HVV := Lib.hid hv0
            clear hrl hru hc f0 f1 e0 e1
            have hE1 := dilE_two (rows := rl) (k := R) (by rw [reach_iff.2 ⟨r0, r1⟩, hv0]; rfl)
            have hE2 := dilE_two (rows := rl) (k := G) (by rw [reach_iff.2 ⟨g0, g1⟩, hv0]; rfl)
            rcases hE1 with hE1 | hE1
            · rcases hE2 with hE2 | hE2
              · have HOV := Lib.hid ((ovE_valid hv1).trans hE1)
                have HE2 := Lib.hid hE2
                have HE1 := Lib.hid hE1
                clear hE1 hE2 hv1 hv0
                go_wp2
                go_region_held (fun w' => w'.cell? ⟨bL, offL + i, none⟩ = some (.slice S0 n0 c0) ∧ w'.cell? ⟨bL, offL + (i + 1), none⟩ = some (.slice S1 n1 c1)) (refine ⟨?_, ?_⟩ <;> first | assumption | (refine (Kin.cell (W := (Kin.wd y)) _ ?_).trans ?_ <;> assumption) | simp [*, World.cell?_alloc_some, World.cell?_setCell_far] | ((refine (World.cell?_setCell_other (by simp)).trans ?_); first | assumption | simp [*])) ((go_at_call 12; (with_reducible refine (Kin.callK (W := (Kin.wd y)) (by repeat (first | with_reducible exact Below.refl _ _ | with_reducible exact Nat.le_refl _ | with_reducible refine Kin.below _ ?_ | with_reducible refine Below.alloc ?_ ?_ _ | with_reducible refine Below.drew ?_ | with_reducible refine Kin.le _ ?_ | with_reducible refine le_alloc ?_ _ | with_reducible refine le_drew ?_ | with_reducible refine Below.setCell ?_ ?_ _ | with_reducible exact Nat.le_refl _ | (simp only [World.size_alloc]; omega) | (simp <;> omega))) (rov_is _ _ ru rl R _ (F1.out.below (by repeat (first | with_reducible exact Below.refl _ _ | with_reducible exact Nat.le_refl _ | with_reducible refine Kin.below _ ?_ | with_reducible refine Below.alloc ?_ ?_ _ | with_reducible refine Below.drew ?_ | with_reducible refine Kin.le _ ?_ | with_reducible refine le_alloc ?_ _ | with_reducible refine le_drew ?_ | with_reducible refine Below.setCell ?_ ?_ _ | with_reducible exact Nat.le_refl _ | (simp only [World.size_alloc]; omega) | (simp <;> omega)))) B1.out (F0.out.below (by repeat (first | with_reducible exact Below.refl _ _ | with_reducible exact Nat.le_refl _ | with_reducible refine Kin.below _ ?_ | with_reducible refine Below.alloc ?_ ?_ _ | with_reducible refine Below.drew ?_ | with_reducible refine Kin.le _ ?_ | with_reducible refine le_alloc ?_ _ | with_reducible refine le_drew ?_ | with_reducible refine Below.setCell ?_ ?_ _ | with_reducible exact Nat.le_refl _ | (simp only [World.size_alloc]; omega) | (simp <;> omega)))) B0.out HOV.out)).mono ?_); rintro e w' ⟨z1, ⟨OA, on, oc, rfl, ho⟩, hz1, rfl⟩; (have HOO := Lib.hid ho; have kz0 : (Kin.wd z1).cell? ⟨bL, offL + i, none⟩ = some (.slice S0 n0 c0) := (z1.cell kl).trans k0; have kz1 : (Kin.wd z1).cell? ⟨bL, offL + (i + 1), none⟩ = some (.slice S1 n1 c1) := (z1.cell kl).trans k1; have kzl : bL < (Kin.wd z1).heap.size := z1.lt0 kl; have kyl : (Kin.wd y).heap.size ≤ (Kin.wd z1).heap.size := z1.2.size; (first | have KV := Lib.hid (new_in1 hz1) | have KV := Lib.hid (new_in2 hz1) | skip); (first | (have kv0 := KV.out.cell 0; have kvf := KV.out.frozen 0; have kvl := KV.out.lt; simp at kv0) | skip); clear ho)))
                · obtain ⟨yo, hyo⟩ : ∃ yo : Kin y.1, yo.1 = z1.1.alloc (.cells #[.slice OA on oc] 24) := ⟨⟨z1.1.alloc (.cells #[.slice OA on oc] 24), (by repeat (first | with_reducible exact Below.refl _ _ | with_reducible exact Nat.le_refl _ | with_reducible refine Kin.below _ ?_ | with_reducible refine Below.alloc ?_ ?_ _ | with_reducible refine Below.drew ?_ | with_reducible refine Kin.le _ ?_ | with_reducible refine le_alloc ?_ _ | with_reducible refine le_drew ?_ | with_reducible refine Below.setCell ?_ ?_ _ | with_reducible exact Nat.le_refl _ | (simp only [World.size_alloc]; omega) | (simp <;> omega)))⟩, rfl⟩
                  rw [← hyo]
                  have HPO := Lib.hid (show Blk yo.1 z1.1.heap.size 24 #[.slice OA on oc] from hyo ▸ Blk.new _ _ _)
                  have HOy := Lib.hid (show RdReg yo.1 (.agg #[.slice OA on oc]) (ovR ru rl R) from hyo ▸ HOO.out.below (Below.alloc (Below.refl _ _) (Nat.le_refl _) _))
                  have hgo : z.1.heap.size ≠ z1.1.heap.size := Nat.ne_of_lt (Nat.lt_of_lt_of_le HO.out.lt.2 kyl)
                  clear hyo kz0 kz1 kzl kyl HOO
                  have plo := HPO.out.lt
                  have po0 : yo.1.cell? ⟨z1.1.heap.size, 0, none⟩ = some (.slice OA on oc) := HPO.out.cell 0
                  go_wp2_with (go_at_call 31; (with_reducible refine (Kin.callK (W := (Kin.wd yo)) (by repeat (first | with_reducible exact Below.refl _ _ | with_reducible exact Nat.le_refl _ | with_reducible refine Kin.below _ ?_ | with_reducible refine Below.alloc ?_ ?_ _ | with_reducible refine Below.drew ?_ | with_reducible refine Kin.le _ ?_ | with_reducible refine le_alloc ?_ _ | with_reducible refine le_drew ?_ | with_reducible refine Below.setCell ?_ ?_ _ | with_reducible exact Nat.le_refl _ | (simp only [World.size_alloc]; omega) | (simp <;> omega))) (rdil_is _ rl G _ (F0.out.below (by repeat (first | with_reducible exact Below.refl _ _ | with_reducible exact Nat.le_refl _ | with_reducible refine Kin.below _ ?_ | with_reducible refine Below.alloc ?_ ?_ _ | with_reducible refine Below.drew ?_ | with_reducible refine Kin.le _ ?_ | with_reducible refine le_alloc ?_ _ | with_reducible refine le_drew ?_ | with_reducible refine Below.setCell ?_ ?_ _ | with_reducible exact Nat.le_refl _ | (simp only [World.size_alloc]; omega) | (simp <;> omega)))) B0.out HE2.out)).mono ?_); rintro e w' ⟨z2, ⟨DA, dn, dc, rfl, hd⟩, hz2, rfl⟩; (have HDD := Lib.hid hd; clear hd))
                  obtain ⟨yd, hyd⟩ : ∃ yd : Kin yo.1, yd.1 = z2.1.alloc (.cells #[.slice DA dn dc] 24) := ⟨⟨z2.1.alloc (.cells #[.slice DA dn dc] 24), (by repeat (first | with_reducible exact Below.refl _ _ | with_reducible exact Nat.le_refl _ | with_reducible refine Kin.below _ ?_ | with_reducible refine Below.alloc ?_ ?_ _ | with_reducible refine Below.drew ?_ | with_reducible refine Kin.le _ ?_ | with_reducible refine le_alloc ?_ _ | with_reducible refine le_drew ?_ | with_reducible refine Below.setCell ?_ ?_ _ | with_reducible exact Nat.le_refl _ | (simp only [World.size_alloc]; omega) | (simp <;> omega)))⟩, rfl⟩
                  rw [← hyd]
                  have HPD := Lib.hid (show Blk yd.1 z2.1.heap.size 24 #[.slice DA dn dc] from hyd ▸ Blk.new _ _ _)
                  have HDy := Lib.hid (show RdReg yd.1 (.agg #[.slice DA dn dc]) (dilR rl G) from hyd ▸ HDD.out.below (Below.alloc (Below.refl _ _) (Nat.le_refl _) _))
                  have HPOd := Lib.hid (HPO.out.below yd.2)
                  have HOyd := Lib.hid (HOy.out.below yd.2)
                  have HOd := Lib.hid (HO.out.below (yo.2.trans (yd.2.mono yo.2.size)))
                  have hgd : z.1.heap.size ≠ z2.1.heap.size := Nat.ne_of_lt (Nat.lt_of_lt_of_le HO.out.lt.2 (Nat.le_trans yo.2.size z2.2.size))
                  generalize z2.1.heap.size = pd at HPD hgd ⊢
                  clear hyd HDD HPO HOy plo po0
                  obtain ⟨SA, sm, sc, sh, srd⟩ := HOd.out.at_ (supL_top (rs := rs) (R := R) (G := G) (m := m) (j := i + 1) hi1 (by have := HMI.out; omega))
                  have HSR := Lib.hid srd
                  have pd0 : yd.1.cell? ⟨pd, 0, none⟩ = some (.slice DA dn dc) := HPD.out.cell 0
                  have po0 : yd.1.cell? ⟨z1.1.heap.size, 0, none⟩ = some (.slice OA on oc) := HPOd.out.cell 0
                  have pdl := HPD.out.lt
                  have pol := HPOd.out.lt
                  have gl := HOd.out.lt.2
                  clear srd
                  go_region_held (fun w' => w'.cell? ⟨(Kin.wd z).heap.size, i + 1, none⟩ = some (.slice SA sm sc) ∧ w'.cell? ⟨(Kin.wd z1).heap.size, 0, none⟩ = some (.slice OA on oc) ∧ w'.cell? ⟨pd, 0, none⟩ = some (.slice DA dn dc)) (refine ⟨?_, ?_, ?_⟩ <;> first | assumption | (refine (Kin.cell (W := (Kin.wd yd)) _ ?_).trans ?_ <;> assumption) | simp [*, World.cell?_alloc_some, World.cell?_setCell_far] | ((refine (World.cell?_setCell_other (by simp)).trans ?_); first | assumption | simp [*])) (first
                    | (go_at_call 34; (with_reducible refine (Kin.callK (W := (Kin.wd yd)) (by repeat (first | with_reducible exact Below.refl _ _ | with_reducible exact Nat.le_refl _ | with_reducible refine Kin.below _ ?_ | with_reducible refine Below.alloc ?_ ?_ _ | with_reducible refine Below.drew ?_ | with_reducible refine Kin.le _ ?_ | with_reducible refine le_alloc ?_ _ | with_reducible refine le_drew ?_ | with_reducible refine Below.setCell ?_ ?_ _ | with_reducible exact Nat.le_refl _ | (simp only [World.size_alloc]; omega) | (simp <;> omega))) (union18_two _ _ (supS rs R G m) (ovR ru rl R) _ (HSR.out.below (by repeat (first | with_reducible exact Below.refl _ _ | with_reducible exact Nat.le_refl _ | with_reducible refine Kin.below _ ?_ | with_reducible refine Below.alloc ?_ ?_ _ | with_reducible refine Below.drew ?_ | with_reducible refine Kin.le _ ?_ | with_reducible refine le_alloc ?_ _ | with_reducible refine le_drew ?_ | with_reducible refine Below.setCell ?_ ?_ _ | with_reducible exact Nat.le_refl _ | (simp only [World.size_alloc]; omega) | (simp <;> omega)))) (HOyd.out.below (by repeat (first | with_reducible exact Below.refl _ _ | with_reducible exact Nat.le_refl _ | with_reducible refine Kin.below _ ?_ | with_reducible refine Below.alloc ?_ ?_ _ | with_reducible refine Below.drew ?_ | with_reducible refine Kin.le _ ?_ | with_reducible refine le_alloc ?_ _ | with_reducible refine le_drew ?_ | with_reducible refine Below.setCell ?_ ?_ _ | with_reducible exact Nat.le_refl _ | (simp only [World.size_alloc]; omega) | (simp <;> omega)))) (rvalid_bd (supS_valid rs R G m)) (rvalid_bd (ovR_valid _ _ _)))).mono ?_); rintro e w' ⟨z3, ⟨UA, un, uc, rfl, hu⟩, hz3, rfl⟩; (have HUU := Lib.hid hu; clear hu))
                    | (go_at_call 32; (with_reducible refine (Kin.callK (W := (Kin.wd yd)) (by repeat (first | with_reducible exact Below.refl _ _ | with_reducible exact Nat.le_refl _ | with_reducible refine Kin.below _ ?_ | with_reducible refine Below.alloc ?_ ?_ _ | with_reducible refine Below.drew ?_ | with_reducible refine Kin.le _ ?_ | with_reducible refine le_alloc ?_ _ | with_reducible refine le_drew ?_ | with_reducible refine Below.setCell ?_ ?_ _ | with_reducible exact Nat.le_refl _ | (simp only [World.size_alloc]; omega) | (simp <;> omega))) (subtract18_two _ _ (rop (opf 2) (supS rs R G m) (ovR ru rl R)) (dilR rl G) _ (HUU.out.below (by repeat (first | with_reducible exact Below.refl _ _ | with_reducible exact Nat.le_refl _ | with_reducible refine Kin.below _ ?_ | with_reducible refine Below.alloc ?_ ?_ _ | with_reducible refine Below.drew ?_ | with_reducible refine Kin.le _ ?_ | with_reducible refine le_alloc ?_ _ | with_reducible refine le_drew ?_ | with_reducible refine Below.setCell ?_ ?_ _ | with_reducible exact Nat.le_refl _ | (simp only [World.size_alloc]; omega) | (simp <;> omega)))) (HDy.out.below (by repeat (first | with_reducible exact Below.refl _ _ | with_reducible exact Nat.le_refl _ | with_reducible refine Kin.below _ ?_ | with_reducible refine Below.alloc ?_ ?_ _ | with_reducible refine Below.drew ?_ | with_reducible refine Kin.le _ ?_ | with_reducible refine le_alloc ?_ _ | with_reducible refine le_drew ?_ | with_reducible refine Below.setCell ?_ ?_ _ | with_reducible exact Nat.le_refl _ | (simp only [World.size_alloc]; omega) | (simp <;> omega)))) (rvalid_bd (rop_valid (opf_ff 2) _ _)) (rvalid_bd (dilR_valid _ _)))).mono ?_); rintro e w' ⟨z4, ⟨RA, rn, rc, rfl, hrn, hr⟩, hz4, rfl⟩; (have HRR := Lib.hid hr; have HO4 := Lib.hid (HOd.out.below z4.2); have gf : (Kin.wd z4).frozen? ⟨(Kin.wd z).heap.size, i, none⟩ = false := HO4.out.frozen i; (obtain ⟨tA, tm, tc, gi, _⟩ := HO4.out.at_ (supL_get (rs := rs) (R := R) (G := G) (m := m) hi0)); have gi1 : (Kin.wd z4).cell? ⟨(Kin.wd z).heap.size, i + 1, none⟩ = some (.slice SA sm sc) := (z4.cell gl).trans sh; have go1 : (Kin.wd z4).cell? ⟨(Kin.wd z1).heap.size, 0, none⟩ = some (.slice OA on oc) := (z4.cell pol).trans po0; have gd1 : (Kin.wd z4).cell? ⟨pd, 0, none⟩ = some (.slice DA dn dc) := (z4.cell pdl).trans pd0; have gl4 := HO4.out.lt.2; have t1 := cell_off (i := i) (u := .slice RA rn rc) gi1 (Nat.ne_of_lt (Nat.lt_succ_self i)); have t2 := cell_blk (i := i) (u := .slice RA rn rc) go1 hgo; have t3 := cell_blk (i := i) (u := .slice RA rn rc) gd1 hgd; clear hr hrn)))
                  all_goals
                    have hzz : Below w.heap.size w z4.1 := (y.2.trans (yo.2.mono y.2.size)).trans ((yd.2.trans (z4.2.mono yd.2.size)).mono (Nat.le_trans y.2.size yo.2.size))
                    go_wp2
                    go_roundw
                    case rel => exact ⟨m + 1, (i : Int) - 1, Lib.hid (by have := HMI.out; omega), rfl, Lib.hid (by
                        have hst := HO4.out.store hi0 HRR.out
                        rw [← supL_step (rs := rs) (R := R) (G := G) HMI.out.1, ← HMI.out.2.1]
                        have e : supS rs R G (m + 1) = rop (opf 0) (rop (opf 2) (supS rs R G m) (ovR ru rl R)) (dilR rl G) := by
                          show rop (opf 0) (rop (opf 2) (supS rs R G m) (ovR (rsAt rs (rs.length - 1 - m)) (rsAt rs (rs.length - 2 - m)) R)) (dilR (rsAt rs (rs.length - 2 - m)) G) = _
                          rw [← HMI.out.2.2, ← HMI.out.2.1, HRL.out, HRU.out]
                        rw [e]; exact hst), Lib.hid (fun q h1 h2 => by
                        by_cases hq : q = i
                        · subst hq; unfold supOk; rw [HRL.out, HE1.out, HE2.out]; rfl
                        · exact HS.out q (by have := HMI.out; omega) h2), Lib.hid (Below.setCell hzz (Nat.le_trans (Nat.le_of_eq rfl) hzs) _)⟩
                    case measure => simp [intOf] <;> omega
                · obtain ⟨yo, hyo⟩ : ∃ yo : Kin y.1, yo.1 = z1.1.setCell ⟨y.1.heap.size, 0, none⟩ (.slice OA on oc) := ⟨⟨z1.1.setCell ⟨y.1.heap.size, 0, none⟩ (.slice OA on oc), Below.setCell z1.2 (Nat.le_refl _) _⟩, rfl⟩
                  rw [← hyo]
                  have HPO := Lib.hid (show Blk yo.1 y.1.heap.size 24 #[.slice OA on oc] from hyo ▸ KV.out.set_ 0 _)
                  have HOy := Lib.hid (show RdReg yo.1 (.agg #[.slice OA on oc]) (ovR ru rl R) from hyo ▸ HOO.out.set_ KV.out)
                  have hgo : z.1.heap.size ≠ y.1.heap.size := Nat.ne_of_lt HO.out.lt.2
                  clear hyo kz0 kz1 kzl kyl HOO kv0 kvf kvl KV
                  have plo := HPO.out.lt
                  have po0 : yo.1.cell? ⟨y.1.heap.size, 0, none⟩ = some (.slice OA on oc) := HPO.out.cell 0
                  go_wp2_with (go_at_call 31; (with_reducible refine (Kin.callK (W := (Kin.wd yo)) (by repeat (first | with_reducible exact Below.refl _ _ | with_reducible exact Nat.le_refl _ | with_reducible refine Kin.below _ ?_ | with_reducible refine Below.alloc ?_ ?_ _ | with_reducible refine Below.drew ?_ | with_reducible refine Kin.le _ ?_ | with_reducible refine le_alloc ?_ _ | with_reducible refine le_drew ?_ | with_reducible refine Below.setCell ?_ ?_ _ | with_reducible exact Nat.le_refl _ | (simp only [World.size_alloc]; omega) | (simp <;> omega))) (rdil_is _ rl G _ (F0.out.below (by repeat (first | with_reducible exact Below.refl _ _ | with_reducible exact Nat.le_refl _ | with_reducible refine Kin.below _ ?_ | with_reducible refine Below.alloc ?_ ?_ _ | with_reducible refine Below.drew ?_ | with_reducible refine Kin.le _ ?_ | with_reducible refine le_alloc ?_ _ | with_reducible refine le_drew ?_ | with_reducible refine Below.setCell ?_ ?_ _ | with_reducible exact Nat.le_refl _ | (simp only [World.size_alloc]; omega) | (simp <;> omega)))) B0.out HE2.out)).mono ?_); rintro e w' ⟨z2, ⟨DA, dn, dc, rfl, hd⟩, hz2, rfl⟩; (have HDD := Lib.hid hd; clear hd))
                  obtain ⟨yd, hyd⟩ : ∃ yd : Kin yo.1, yd.1 = z2.1.alloc (.cells #[.slice DA dn dc] 24) := ⟨⟨z2.1.alloc (.cells #[.slice DA dn dc] 24), (by repeat (first | with_reducible exact Below.refl _ _ | with_reducible exact Nat.le_refl _ | with_reducible refine Kin.below _ ?_ | with_reducible refine Below.alloc ?_ ?_ _ | with_reducible refine Below.drew ?_ | with_reducible refine Kin.le _ ?_ | with_reducible refine le_alloc ?_ _ | with_reducible refine le_drew ?_ | with_reducible refine Below.setCell ?_ ?_ _ | with_reducible exact Nat.le_refl _ | (simp only [World.size_alloc]; omega) | (simp <;> omega)))⟩, rfl⟩
                  rw [← hyd]
                  have HPD := Lib.hid (show Blk yd.1 z2.1.heap.size 24 #[.slice DA dn dc] from hyd ▸ Blk.new _ _ _)
                  have HDy := Lib.hid (show RdReg yd.1 (.agg #[.slice DA dn dc]) (dilR rl G) from hyd ▸ HDD.out.below (Below.alloc (Below.refl _ _) (Nat.le_refl _) _))
                  have HPOd := Lib.hid (HPO.out.below yd.2)
                  have HOyd := Lib.hid (HOy.out.below yd.2)
                  have HOd := Lib.hid (HO.out.below (yo.2.trans (yd.2.mono yo.2.size)))
                  have hgd : z.1.heap.size ≠ z2.1.heap.size := Nat.ne_of_lt (Nat.lt_of_lt_of_le HO.out.lt.2 (Nat.le_trans yo.2.size z2.2.size))
                  generalize z2.1.heap.size = pd at HPD hgd ⊢
                  clear hyd HDD HPO HOy plo po0
                  obtain ⟨SA, sm, sc, sh, srd⟩ := HOd.out.at_ (supL_top (rs := rs) (R := R) (G := G) (m := m) (j := i + 1) hi1 (by have := HMI.out; omega))
                  have HSR := Lib.hid srd
                  have pd0 : yd.1.cell? ⟨pd, 0, none⟩ = some (.slice DA dn dc) := HPD.out.cell 0
                  have po0 : yd.1.cell? ⟨y.1.heap.size, 0, none⟩ = some (.slice OA on oc) := HPOd.out.cell 0
                  have pdl := HPD.out.lt
                  have pol := HPOd.out.lt
                  have gl := HOd.out.lt.2
                  clear srd
                  go_region_held (fun w' => w'.cell? ⟨(Kin.wd z).heap.size, i + 1, none⟩ = some (.slice SA sm sc) ∧ w'.cell? ⟨(Kin.wd y).heap.size, 0, none⟩ = some (.slice OA on oc) ∧ w'.cell? ⟨pd, 0, none⟩ = some (.slice DA dn dc)) (refine ⟨?_, ?_, ?_⟩ <;> first | assumption | (refine (Kin.cell (W := (Kin.wd yd)) _ ?_).trans ?_ <;> assumption) | simp [*, World.cell?_alloc_some, World.cell?_setCell_far] | ((refine (World.cell?_setCell_other (by simp)).trans ?_); first | assumption | simp [*])) (first
                    | (go_at_call 34; (with_reducible refine (Kin.callK (W := (Kin.wd yd)) (by repeat (first | with_reducible exact Below.refl _ _ | with_reducible exact Nat.le_refl _ | with_reducible refine Kin.below _ ?_ | with_reducible refine Below.alloc ?_ ?_ _ | with_reducible refine Below.drew ?_ | with_reducible refine Kin.le _ ?_ | with_reducible refine le_alloc ?_ _ | with_reducible refine le_drew ?_ | with_reducible refine Below.setCell ?_ ?_ _ | with_reducible exact Nat.le_refl _ | (simp only [World.size_alloc]; omega) | (simp <;> omega))) (union18_two _ _ (supS rs R G m) (ovR ru rl R) _ (HSR.out.below (by repeat (first | with_reducible exact Below.refl _ _ | with_reducible exact Nat.le_refl _ | with_reducible refine Kin.below _ ?_ | with_reducible refine Below.alloc ?_ ?_ _ | with_reducible refine Below.drew ?_ | with_reducible refine Kin.le _ ?_ | with_reducible refine le_alloc ?_ _ | with_reducible refine le_drew ?_ | with_reducible refine Below.setCell ?_ ?_ _ | with_reducible exact Nat.le_refl _ | (simp only [World.size_alloc]; omega) | (simp <;> omega)))) (HOyd.out.below (by repeat (first | with_reducible exact Below.refl _ _ | with_reducible exact Nat.le_refl _ | with_reducible refine Kin.below _ ?_ | with_reducible refine Below.alloc ?_ ?_ _ | with_reducible refine Below.drew ?_ | with_reducible refine Kin.le _ ?_ | with_reducible refine le_alloc ?_ _ | with_reducible refine le_drew ?_ | with_reducible refine Below.setCell ?_ ?_ _ | with_reducible exact Nat.le_refl _ | (simp only [World.size_alloc]; omega) | (simp <;> omega)))) (rvalid_bd (supS_valid rs R G m)) (rvalid_bd (ovR_valid _ _ _)))).mono ?_); rintro e w' ⟨z3, ⟨UA, un, uc, rfl, hu⟩, hz3, rfl⟩; (have HUU := Lib.hid hu; clear hu))
                    | (go_at_call 32; (with_reducible refine (Kin.callK (W := (Kin.wd yd)) (by repeat (first | with_reducible exact Below.refl _ _ | with_reducible exact Nat.le_refl _ | with_reducible refine Kin.below _ ?_ | with_reducible refine Below.alloc ?_ ?_ _ | with_reducible refine Below.drew ?_ | with_reducible refine Kin.le _ ?_ | with_reducible refine le_alloc ?_ _ | with_reducible refine le_drew ?_ | with_reducible refine Below.setCell ?_ ?_ _ | with_reducible exact Nat.le_refl _ | (simp only [World.size_alloc]; omega) | (simp <;> omega))) (subtract18_two _ _ (rop (opf 2) (supS rs R G m) (ovR ru rl R)) (dilR rl G) _ (HUU.out.below (by repeat (first | with_reducible exact Below.refl _ _ | with_reducible exact Nat.le_refl _ | with_reducible refine Kin.below _ ?_ | with_reducible refine Below.alloc ?_ ?_ _ | with_reducible refine Below.drew ?_ | with_reducible refine Kin.le _ ?_ | with_reducible refine le_alloc ?_ _ | with_reducible refine le_drew ?_ | with_reducible refine Below.setCell ?_ ?_ _ | with_reducible exact Nat.le_refl _ | (simp only [World.size_alloc]; omega) | (simp <;> omega)))) (HDy.out.below (by repeat (first | with_reducible exact Below.refl _ _ | with_reducible exact Nat.le_refl _ | with_reducible refine Kin.below _ ?_ | with_reducible refine Below.alloc ?_ ?_ _ | with_reducible refine Below.drew ?_ | with_reducible refine Kin.le _ ?_ | with_reducible refine le_alloc ?_ _ | with_reducible refine le_drew ?_ | with_reducible refine Below.setCell ?_ ?_ _ | with_reducible exact Nat.le_refl _ | (simp only [World.size_alloc]; omega) | (simp <;> omega)))) (rvalid_bd (rop_valid (opf_ff 2) _ _)) (rvalid_bd (dilR_valid _ _)))).mono ?_); rintro e w' ⟨z4, ⟨RA, rn, rc, rfl, hrn, hr⟩, hz4, rfl⟩; (have HRR := Lib.hid hr; have HO4 := Lib.hid (HOd.out.below z4.2); have gf : (Kin.wd z4).frozen? ⟨(Kin.wd z).heap.size, i, none⟩ = false := HO4.out.frozen i; (obtain ⟨tA, tm, tc, gi, _⟩ := HO4.out.at_ (supL_get (rs := rs) (R := R) (G := G) (m := m) hi0)); have gi1 : (Kin.wd z4).cell? ⟨(Kin.wd z).heap.size, i + 1, none⟩ = some (.slice SA sm sc) := (z4.cell gl).trans sh; have go1 : (Kin.wd z4).cell? ⟨(Kin.wd y).heap.size, 0, none⟩ = some (.slice OA on oc) := (z4.cell pol).trans po0; have gd1 : (Kin.wd z4).cell? ⟨pd, 0, none⟩ = some (.slice DA dn dc) := (z4.cell pdl).trans pd0; have gl4 := HO4.out.lt.2; have t1 := cell_off (i := i) (u := .slice RA rn rc) gi1 (Nat.ne_of_lt (Nat.lt_succ_self i)); have t2 := cell_blk (i := i) (u := .slice RA rn rc) go1 hgo; have t3 := cell_blk (i := i) (u := .slice RA rn rc) gd1 hgd; clear hr hrn)))
                  all_goals
                    have hzz : Below w.heap.size w z4.1 := (y.2.trans (yo.2.mono y.2.size)).trans ((yd.2.trans (z4.2.mono yd.2.size)).mono (Nat.le_trans y.2.size yo.2.size))
                    go_wp2
                    go_roundw
                    case rel => exact ⟨m + 1, (i : Int) - 1, Lib.hid (by have := HMI.out; omega), rfl, Lib.hid (by
                        have hst := HO4.out.store hi0 HRR.out
                        rw [← supL_step (rs := rs) (R := R) (G := G) HMI.out.1, ← HMI.out.2.1]
                        have e : supS rs R G (m + 1) = rop (opf 0) (rop (opf 2) (supS rs R G m) (ovR ru rl R)) (dilR rl G) := by
                          show rop (opf 0) (rop (opf 2) (supS rs R G m) (ovR (rsAt rs (rs.length - 1 - m)) (rsAt rs (rs.length - 2 - m)) R)) (dilR (rsAt rs (rs.length - 2 - m)) G) = _
                          rw [← HMI.out.2.2, ← HMI.out.2.1, HRL.out, HRU.out]
                        rw [e]; exact hst), Lib.hid (fun q h1 h2 => by
                        by_cases hq : q = i
                        · subst hq; unfold supOk; rw [HRL.out, HE1.out, HE2.out]; rfl
                        · exact HS.out q (by have := HMI.out; omega) h2), Lib.hid (Below.setCell hzz (Nat.le_trans (Nat.le_of_eq rfl) hzs) _)⟩
                    case measure => simp [intOf] <;> omega
                · obtain ⟨yo, hyo⟩ : ∃ yo : Kin y.1, yo.1 = z1.1.setCell ⟨y.1.heap.size, 0, none⟩ (.slice OA on oc) := ⟨⟨z1.1.setCell ⟨y.1.heap.size, 0, none⟩ (.slice OA on oc), Below.setCell z1.2 (Nat.le_refl _) _⟩, rfl⟩
                  rw [← hyo]
                  have HPO := Lib.hid (show Blk yo.1 y.1.heap.size 24 #[.slice OA on oc] from hyo ▸ KV.out.set_ 0 _)
                  have HOy := Lib.hid (show RdReg yo.1 (.agg #[.slice OA on oc]) (ovR ru rl R) from hyo ▸ HOO.out.set_ KV.out)
                  have hgo : z.1.heap.size ≠ y.1.heap.size := Nat.ne_of_lt HO.out.lt.2
                  clear hyo kz0 kz1 kzl kyl HOO kv0 kvf kvl KV
                  have plo := HPO.out.lt
                  have po0 : yo.1.cell? ⟨y.1.heap.size, 0, none⟩ = some (.slice OA on oc) := HPO.out.cell 0
                  go_wp2_with (go_at_call 31; (with_reducible refine (Kin.callK (W := (Kin.wd yo)) (by repeat (first | with_reducible exact Below.refl _ _ | with_reducible exact Nat.le_refl _ | with_reducible refine Kin.below _ ?_ | with_reducible refine Below.alloc ?_ ?_ _ | with_reducible refine Below.drew ?_ | with_reducible refine Kin.le _ ?_ | with_reducible refine le_alloc ?_ _ | with_reducible refine le_drew ?_ | with_reducible refine Below.setCell ?_ ?_ _ | with_reducible exact Nat.le_refl _ | (simp only [World.size_alloc]; omega) | (simp <;> omega))) (rdil_is _ rl G _ (F0.out.below (by repeat (first | with_reducible exact Below.refl _ _ | with_reducible exact Nat.le_refl _ | with_reducible refine Kin.below _ ?_ | with_reducible refine Below.alloc ?_ ?_ _ | with_reducible refine Below.drew ?_ | with_reducible refine Kin.le _ ?_ | with_reducible refine le_alloc ?_ _ | with_reducible refine le_drew ?_ | with_reducible refine Below.setCell ?_ ?_ _ | with_reducible exact Nat.le_refl _ | (simp only [World.size_alloc]; omega) | (simp <;> omega)))) B0.out HE2.out)).mono ?_); rintro e w' ⟨z2, ⟨DA, dn, dc, rfl, hd⟩, hz2, rfl⟩; (have HDD := Lib.hid hd; clear hd))
                  obtain ⟨yd, hyd⟩ : ∃ yd : Kin yo.1, yd.1 = z2.1.alloc (.cells #[.slice DA dn dc] 24) := ⟨⟨z2.1.alloc (.cells #[.slice DA dn dc] 24), (by repeat (first | with_reducible exact Below.refl _ _ | with_reducible exact Nat.le_refl _ | with_reducible refine Kin.below _ ?_ | with_reducible refine Below.alloc ?_ ?_ _ | with_reducible refine Below.drew ?_ | with_reducible refine Kin.le _ ?_ | with_reducible refine le_alloc ?_ _ | with_reducible refine le_drew ?_ | with_reducible refine Below.setCell ?_ ?_ _ | with_reducible exact Nat.le_refl _ | (simp only [World.size_alloc]; omega) | (simp <;> omega)))⟩, rfl⟩
                  rw [← hyd]
                  have HPD := Lib.hid (show Blk yd.1 z2.1.heap.size 24 #[.slice DA dn dc] from hyd ▸ Blk.new _ _ _)
                  have HDy := Lib.hid (show RdReg yd.1 (.agg #[.slice DA dn dc]) (dilR rl G) from hyd ▸ HDD.out.below (Below.alloc (Below.refl _ _) (Nat.le_refl _) _))
                  have HPOd := Lib.hid (HPO.out.below yd.2)
                  have HOyd := Lib.hid (HOy.out.below yd.2)
                  have HOd := Lib.hid (HO.out.below (yo.2.trans (yd.2.mono yo.2.size)))
                  have hgd : z.1.heap.size ≠ z2.1.heap.size := Nat.ne_of_lt (Nat.lt_of_lt_of_le HO.out.lt.2 (Nat.le_trans yo.2.size z2.2.size))
                  generalize z2.1.heap.size = pd at HPD hgd ⊢
                  clear hyd HDD HPO HOy plo po0
                  obtain ⟨SA, sm, sc, sh, srd⟩ := HOd.out.at_ (supL_top (rs := rs) (R := R) (G := G) (m := m) (j := i + 1) hi1 (by have := HMI.out; omega))
                  have HSR := Lib.hid srd
                  have pd0 : yd.1.cell? ⟨pd, 0, none⟩ = some (.slice DA dn dc) := HPD.out.cell 0
                  have po0 : yd.1.cell? ⟨y.1.heap.size, 0, none⟩ = some (.slice OA on oc) := HPOd.out.cell 0
                  have pdl := HPD.out.lt
                  have pol := HPOd.out.lt
                  have gl := HOd.out.lt.2
                  clear srd
                  go_region_held (fun w' => w'.cell? ⟨(Kin.wd z).heap.size, i + 1, none⟩ = some (.slice SA sm sc) ∧ w'.cell? ⟨(Kin.wd y).heap.size, 0, none⟩ = some (.slice OA on oc) ∧ w'.cell? ⟨pd, 0, none⟩ = some (.slice DA dn dc)) (refine ⟨?_, ?_, ?_⟩ <;> first | assumption | (refine (Kin.cell (W := (Kin.wd yd)) _ ?_).trans ?_ <;> assumption) | simp [*, World.cell?_alloc_some, World.cell?_setCell_far] | ((refine (World.cell?_setCell_other (by simp)).trans ?_); first | assumption | simp [*])) (first
                    | (go_at_call 34; (with_reducible refine (Kin.callK (W := (Kin.wd yd)) (by repeat (first | with_reducible exact Below.refl _ _ | with_reducible exact Nat.le_refl _ | with_reducible refine Kin.below _ ?_ | with_reducible refine Below.alloc ?_ ?_ _ | with_reducible refine Below.drew ?_ | with_reducible refine Kin.le _ ?_ | with_reducible refine le_alloc ?_ _ | with_reducible refine le_drew ?_ | with_reducible refine Below.setCell ?_ ?_ _ | with_reducible exact Nat.le_refl _ | (simp only [World.size_alloc]; omega) | (simp <;> omega))) (union18_two _ _ (supS rs R G m) (ovR ru rl R) _ (HSR.out.below (by repeat (first | with_reducible exact Below.refl _ _ | with_reducible exact Nat.le_refl _ | with_reducible refine Kin.below _ ?_ | with_reducible refine Below.alloc ?_ ?_ _ | with_reducible refine Below.drew ?_ | with_reducible refine Kin.le _ ?_ | with_reducible refine le_alloc ?_ _ | with_reducible refine le_drew ?_ | with_reducible refine Below.setCell ?_ ?_ _ | with_reducible exact Nat.le_refl _ | (simp only [World.size_alloc]; omega) | (simp <;> omega)))) (HOyd.out.below (by repeat (first | with_reducible exact Below.refl _ _ | with_reducible exact Nat.le_refl _ | with_reducible refine Kin.below _ ?_ | with_reducible refine Below.alloc ?_ ?_ _ | with_reducible refine Below.drew ?_ | with_reducible refine Kin.le _ ?_ | with_reducible refine le_alloc ?_ _ | with_reducible refine le_drew ?_ | with_reducible refine Below.setCell ?_ ?_ _ | with_reducible exact Nat.le_refl _ | (simp only [World.size_alloc]; omega) | (simp <;> omega)))) (rvalid_bd (supS_valid rs R G m)) (rvalid_bd (ovR_valid _ _ _)))).mono ?_); rintro e w' ⟨z3, ⟨UA, un, uc, rfl, hu⟩, hz3, rfl⟩; (have HUU := Lib.hid hu; clear hu))
                    | (go_at_call 32; (with_reducible refine (Kin.callK (W := (Kin.wd yd)) (by repeat (first | with_reducible exact Below.refl _ _ | with_reducible exact Nat.le_refl _ | with_reducible refine Kin.below _ ?_ | with_reducible refine Below.alloc ?_ ?_ _ | with_reducible refine Below.drew ?_ | with_reducible refine Kin.le _ ?_ | with_reducible refine le_alloc ?_ _ | with_reducible refine le_drew ?_ | with_reducible refine Below.setCell ?_ ?_ _ | with_reducible exact Nat.le_refl _ | (simp only [World.size_alloc]; omega) | (simp <;> omega))) (subtract18_two _ _ (rop (opf 2) (supS rs R G m) (ovR ru rl R)) (dilR rl G) _ (HUU.out.below (by repeat (first | with_reducible exact Below.refl _ _ | with_reducible exact Nat.le_refl _ | with_reducible refine Kin.below _ ?_ | with_reducible refine Below.alloc ?_ ?_ _ | with_reducible refine Below.drew ?_ | with_reducible refine Kin.le _ ?_ | with_reducible refine le_alloc ?_ _ | with_reducible refine le_drew ?_ | with_reducible refine Below.setCell ?_ ?_ _ | with_reducible exact Nat.le_refl _ | (simp only [World.size_alloc]; omega) | (simp <;> omega)))) (HDy.out.below (by repeat (first | with_reducible exact Below.refl _ _ | with_reducible exact Nat.le_refl _ | with_reducible refine Kin.below _ ?_ | with_reducible refine Below.alloc ?_ ?_ _ | with_reducible refine Below.drew ?_ | with_reducible refine Kin.le _ ?_ | with_reducible refine le_alloc ?_ _ | with_reducible refine le_drew ?_ | with_reducible refine Below.setCell ?_ ?_ _ | with_reducible exact Nat.le_refl _ | (simp only [World.size_alloc]; omega) | (simp <;> omega)))) (rvalid_bd (rop_valid (opf_ff 2) _ _)) (rvalid_bd (dilR_valid _ _)))).mono ?_); rintro e w' ⟨z4, ⟨RA, rn, rc, rfl, hrn, hr⟩, hz4, rfl⟩; (have HRR := Lib.hid hr; have HO4 := Lib.hid (HOd.out.below z4.2); have gf : (Kin.wd z4).frozen? ⟨(Kin.wd z).heap.size, i, none⟩ = false := HO4.out.frozen i; (obtain ⟨tA, tm, tc, gi, _⟩ := HO4.out.at_ (supL_get (rs := rs) (R := R) (G := G) (m := m) hi0)); have gi1 : (Kin.wd z4).cell? ⟨(Kin.wd z).heap.size, i + 1, none⟩ = some (.slice SA sm sc) := (z4.cell gl).trans sh; have go1 : (Kin.wd z4).cell? ⟨(Kin.wd y).heap.size, 0, none⟩ = some (.slice OA on oc) := (z4.cell pol).trans po0; have gd1 : (Kin.wd z4).cell? ⟨pd, 0, none⟩ = some (.slice DA dn dc) := (z4.cell pdl).trans pd0; have gl4 := HO4.out.lt.2; have t1 := cell_off (i := i) (u := .slice RA rn rc) gi1 (Nat.ne_of_lt (Nat.lt_succ_self i)); have t2 := cell_blk (i := i) (u := .slice RA rn rc) go1 hgo; have t3 := cell_blk (i := i) (u := .slice RA rn rc) gd1 hgd; clear hr hrn)))
                  all_goals
                    have hzz : Below w.heap.size w z4.1 := (y.2.trans (yo.2.mono y.2.size)).trans ((yd.2.trans (z4.2.mono yd.2.size)).mono (Nat.le_trans y.2.size yo.2.size))
                    go_wp2
                    go_roundw
                    case rel => exact ⟨m + 1, (i : Int) - 1, Lib.hid (by have := HMI.out; omega), rfl, Lib.hid (by
                        have hst := HO4.out.store hi0 HRR.out
                        rw [← supL_step (rs := rs) (R := R) (G := G) HMI.out.1, ← HMI.out.2.1]
                        have e : supS rs R G (m + 1) = rop (opf 0) (rop (opf 2) (supS rs R G m) (ovR ru rl R)) (dilR rl G) := by
                          show rop (opf 0) (rop (opf 2) (supS rs R G m) (ovR (rsAt rs (rs.length - 1 - m)) (rsAt rs (rs.length - 2 - m)) R)) (dilR (rsAt rs (rs.length - 2 - m)) G) = _
                          rw [← HMI.out.2.2, ← HMI.out.2.1, HRL.out, HRU.out]
                        rw [e]; exact hst), Lib.hid (fun q h1 h2 => by
                        by_cases hq : q = i
                        · subst hq; unfold supOk; rw [HRL.out, HE1.out, HE2.out]; rfl
                        · exact HS.out q (by have := HMI.out; omega) h2), Lib.hid (Below.setCell hzz (Nat.le_trans (Nat.le_of_eq rfl) hzs) _)⟩
                    case measure => simp [intOf] <;> omega
              · have HOV := Lib.hid ((ovE_valid hv1).trans hE1)
                have HE2 := Lib.hid hE2
                have HE := Lib.hid (supE_far HOKA.out (show i < rs.length - 1 by omega) (show supOk rs R G i = false by unfold supOk; rw [HRL.out, hE2]; simp))
                clear hE1 hE2 hv1 hv0
                go_wp2
                go_region_held (fun w' => w'.cell? ⟨bL, offL + i, none⟩ = some (.slice S0 n0 c0) ∧ w'.cell? ⟨bL, offL + (i + 1), none⟩ = some (.slice S1 n1 c1)) (refine ⟨?_, ?_⟩ <;> first | assumption | (refine (Kin.cell (W := (Kin.wd y)) _ ?_).trans ?_ <;> assumption) | simp [*, World.cell?_alloc_some, World.cell?_setCell_far] | ((refine (World.cell?_setCell_other (by simp)).trans ?_); first | assumption | simp [*])) ((go_at_call 12; (with_reducible refine (Kin.callK (W := (Kin.wd y)) (by repeat (first | with_reducible exact Below.refl _ _ | with_reducible exact Nat.le_refl _ | with_reducible refine Kin.below _ ?_ | with_reducible refine Below.alloc ?_ ?_ _ | with_reducible refine Below.drew ?_ | with_reducible refine Kin.le _ ?_ | with_reducible refine le_alloc ?_ _ | with_reducible refine le_drew ?_ | with_reducible refine Below.setCell ?_ ?_ _ | with_reducible exact Nat.le_refl _ | (simp only [World.size_alloc]; omega) | (simp <;> omega))) (rov_is _ _ ru rl R _ (F1.out.below (by repeat (first | with_reducible exact Below.refl _ _ | with_reducible exact Nat.le_refl _ | with_reducible refine Kin.below _ ?_ | with_reducible refine Below.alloc ?_ ?_ _ | with_reducible refine Below.drew ?_ | with_reducible refine Kin.le _ ?_ | with_reducible refine le_alloc ?_ _ | with_reducible refine le_drew ?_ | with_reducible refine Below.setCell ?_ ?_ _ | with_reducible exact Nat.le_refl _ | (simp only [World.size_alloc]; omega) | (simp <;> omega)))) B1.out (F0.out.below (by repeat (first | with_reducible exact Below.refl _ _ | with_reducible exact Nat.le_refl _ | with_reducible refine Kin.below _ ?_ | with_reducible refine Below.alloc ?_ ?_ _ | with_reducible refine Below.drew ?_ | with_reducible refine Kin.le _ ?_ | with_reducible refine le_alloc ?_ _ | with_reducible refine le_drew ?_ | with_reducible refine Below.setCell ?_ ?_ _ | with_reducible exact Nat.le_refl _ | (simp only [World.size_alloc]; omega) | (simp <;> omega)))) B0.out HOV.out)).mono ?_); rintro e w' ⟨z1, ⟨OA, on, oc, rfl, ho⟩, hz1, rfl⟩; (have HOO := Lib.hid ho; have kz0 : (Kin.wd z1).cell? ⟨bL, offL + i, none⟩ = some (.slice S0 n0 c0) := (z1.cell kl).trans k0; have kz1 : (Kin.wd z1).cell? ⟨bL, offL + (i + 1), none⟩ = some (.slice S1 n1 c1) := (z1.cell kl).trans k1; have kzl : bL < (Kin.wd z1).heap.size := z1.lt0 kl; have kyl : (Kin.wd y).heap.size ≤ (Kin.wd z1).heap.size := z1.2.size; (first | have KV := Lib.hid (new_in1 hz1) | have KV := Lib.hid (new_in2 hz1) | skip); (first | (have kv0 := KV.out.cell 0; have kvf := KV.out.frozen 0; have kvl := KV.out.lt; simp at kv0) | skip); clear ho)))
                all_goals
                  first
                  | (obtain ⟨yo, hyo⟩ : ∃ yo : Kin y.1, yo.1 = z1.1.alloc (.cells #[.slice OA on oc] 24) := ⟨⟨z1.1.alloc (.cells #[.slice OA on oc] 24), (by repeat (first | with_reducible exact Below.refl _ _ | with_reducible exact Nat.le_refl _ | with_reducible refine Kin.below _ ?_ | with_reducible refine Below.alloc ?_ ?_ _ | with_reducible refine Below.drew ?_ | with_reducible refine Kin.le _ ?_ | with_reducible refine le_alloc ?_ _ | with_reducible refine le_drew ?_ | with_reducible refine Below.setCell ?_ ?_ _ | with_reducible exact Nat.le_refl _ | (simp only [World.size_alloc]; omega) | (simp <;> omega)))⟩, rfl⟩
                     rw [← hyo]
                     clear hyo)
                  | (obtain ⟨yo, hyo⟩ : ∃ yo : Kin y.1, yo.1 = z1.1.setCell ⟨y.1.heap.size, 0, none⟩ (.slice OA on oc) := ⟨⟨z1.1.setCell ⟨y.1.heap.size, 0, none⟩ (.slice OA on oc), Below.setCell z1.2 (Nat.le_refl _) _⟩, rfl⟩
                     rw [← hyo]
                     clear hyo)
                  go_wp2_with (go_at_call 31; (with_reducible refine (Kin.callK (W := (Kin.wd yo)) (by repeat (first | with_reducible exact Below.refl _ _ | with_reducible exact Nat.le_refl _ | with_reducible refine Kin.below _ ?_ | with_reducible refine Below.alloc ?_ ?_ _ | with_reducible refine Below.drew ?_ | with_reducible refine Kin.le _ ?_ | with_reducible refine le_alloc ?_ _ | with_reducible refine le_drew ?_ | with_reducible refine Below.setCell ?_ ?_ _ | with_reducible exact Nat.le_refl _ | (simp only [World.size_alloc]; omega) | (simp <;> omega))) (rdil_is _ rl G _ (F0.out.below (by repeat (first | with_reducible exact Below.refl _ _ | with_reducible exact Nat.le_refl _ | with_reducible refine Kin.below _ ?_ | with_reducible refine Below.alloc ?_ ?_ _ | with_reducible refine Below.drew ?_ | with_reducible refine Kin.le _ ?_ | with_reducible refine le_alloc ?_ _ | with_reducible refine le_drew ?_ | with_reducible refine Below.setCell ?_ ?_ _ | with_reducible exact Nat.le_refl _ | (simp only [World.size_alloc]; omega) | (simp <;> omega)))) B0.out HE2.out)).mono ?_); rintro e w' ⟨z2, ⟨DA, dn, dc, rfl, hd⟩, hz2, rfl⟩; (clear hd))
                  go_ret2
                  rw [HE.out.1, HE.out.2]
                  exact ⟨⟨_, _, _, rfl, RdRegs.nil⟩, (by repeat (first | with_reducible exact Below.refl _ _ | with_reducible exact Nat.le_refl _ | with_reducible refine Kin.below _ ?_ | with_reducible refine Below.alloc ?_ ?_ _ | with_reducible refine Below.drew ?_ | with_reducible refine Kin.le _ ?_ | with_reducible refine le_alloc ?_ _ | with_reducible refine le_drew ?_ | with_reducible refine Below.setCell ?_ ?_ _ | with_reducible exact Nat.le_refl _ | (simp only [World.size_alloc]; omega) | (simp <;> omega)))⟩
            · have HOV := Lib.hid ((ovE_valid hv1).trans hE1)
              have HE := Lib.hid (supE_far HOKA.out (show i < rs.length - 1 by omega) (show supOk rs R G i = false by unfold supOk; rw [HRL.out, hE1]; simp))
              clear hE1 hE2 hv1 hv0
              go_wp2
              go_region_held (fun w' => w'.cell? ⟨bL, offL + i, none⟩ = some (.slice S0 n0 c0) ∧ w'.cell? ⟨bL, offL + (i + 1), none⟩ = some (.slice S1 n1 c1)) (refine ⟨?_, ?_⟩ <;> first | assumption | (refine (Kin.cell (W := (Kin.wd y)) _ ?_).trans ?_ <;> assumption) | simp [*, World.cell?_alloc_some, World.cell?_setCell_far] | ((refine (World.cell?_setCell_other (by simp)).trans ?_); first | assumption | simp [*])) ((go_at_call 12; (with_reducible refine (Kin.callK (W := (Kin.wd y)) (by repeat (first | with_reducible exact Below.refl _ _ | with_reducible exact Nat.le_refl _ | with_reducible refine Kin.below _ ?_ | with_reducible refine Below.alloc ?_ ?_ _ | with_reducible refine Below.drew ?_ | with_reducible refine Kin.le _ ?_ | with_reducible refine le_alloc ?_ _ | with_reducible refine le_drew ?_ | with_reducible refine Below.setCell ?_ ?_ _ | with_reducible exact Nat.le_refl _ | (simp only [World.size_alloc]; omega) | (simp <;> omega))) (rov_is _ _ ru rl R _ (F1.out.below (by repeat (first | with_reducible exact Below.refl _ _ | with_reducible exact Nat.le_refl _ | with_reducible refine Kin.below _ ?_ | with_reducible refine Below.alloc ?_ ?_ _ | with_reducible refine Below.drew ?_ | with_reducible refine Kin.le _ ?_ | with_reducible refine le_alloc ?_ _ | with_reducible refine le_drew ?_ | with_reducible refine Below.setCell ?_ ?_ _ | with_reducible exact Nat.le_refl _ | (simp only [World.size_alloc]; omega) | (simp <;> omega)))) B1.out (F0.out.below (by repeat (first | with_reducible exact Below.refl _ _ | with_reducible exact Nat.le_refl _ | with_reducible refine Kin.below _ ?_ | with_reducible refine Below.alloc ?_ ?_ _ | with_reducible refine Below.drew ?_ | with_reducible refine Kin.le _ ?_ | with_reducible refine le_alloc ?_ _ | with_reducible refine le_drew ?_ | with_reducible refine Below.setCell ?_ ?_ _ | with_reducible exact Nat.le_refl _ | (simp only [World.size_alloc]; omega) | (simp <;> omega)))) B0.out HOV.out)).mono ?_); rintro e w' ⟨z1, ⟨OA, on, oc, rfl, ho⟩, hz1, rfl⟩; (have HOO := Lib.hid ho; have kz0 : (Kin.wd z1).cell? ⟨bL, offL + i, none⟩ = some (.slice S0 n0 c0) := (z1.cell kl).trans k0; have kz1 : (Kin.wd z1).cell? ⟨bL, offL + (i + 1), none⟩ = some (.slice S1 n1 c1) := (z1.cell kl).trans k1; have kzl : bL < (Kin.wd z1).heap.size := z1.lt0 kl; have kyl : (Kin.wd y).heap.size ≤ (Kin.wd z1).heap.size := z1.2.size; (first | have KV := Lib.hid (new_in1 hz1) | have KV := Lib.hid (new_in2 hz1) | skip); (first | (have kv0 := KV.out.cell 0; have kvf := KV.out.frozen 0; have kvl := KV.out.lt; simp at kv0) | skip); clear ho)))
              all_goals
                first
                | (obtain ⟨yo, hyo⟩ : ∃ yo : Kin y.1, yo.1 = z1.1.alloc (.cells #[.slice OA on oc] 24) := ⟨⟨z1.1.alloc (.cells #[.slice OA on oc] 24), (by repeat (first | with_reducible exact Below.refl _ _ | with_reducible exact Nat.le_refl _ | with_reducible refine Kin.below _ ?_ | with_reducible refine Below.alloc ?_ ?_ _ | with_reducible refine Below.drew ?_ | with_reducible refine Kin.le _ ?_ | with_reducible refine le_alloc ?_ _ | with_reducible refine le_drew ?_ | with_reducible refine Below.setCell ?_ ?_ _ | with_reducible exact Nat.le_refl _ | (simp only [World.size_alloc]; omega) | (simp <;> omega)))⟩, rfl⟩
                   rw [← hyo]
                   clear hyo)
                | (obtain ⟨yo, hyo⟩ : ∃ yo : Kin y.1, yo.1 = z1.1.setCell ⟨y.1.heap.size, 0, none⟩ (.slice OA on oc) := ⟨⟨z1.1.setCell ⟨y.1.heap.size, 0, none⟩ (.slice OA on oc), Below.setCell z1.2 (Nat.le_refl _) _⟩, rfl⟩
                   rw [← hyo]
                   clear hyo)
                go_wp2_with (go_at_call 31; (with_reducible refine (Kin.callK (W := (Kin.wd yo)) (by repeat (first | with_reducible exact Below.refl _ _ | with_reducible exact Nat.le_refl _ | with_reducible refine Kin.below _ ?_ | with_reducible refine Below.alloc ?_ ?_ _ | with_reducible refine Below.drew ?_ | with_reducible refine Kin.le _ ?_ | with_reducible refine le_alloc ?_ _ | with_reducible refine le_drew ?_ | with_reducible refine Below.setCell ?_ ?_ _ | with_reducible exact Nat.le_refl _ | (simp only [World.size_alloc]; omega) | (simp <;> omega))) (rdil_any _ rl G _ (F0.out.below (by repeat (first | with_reducible exact Below.refl _ _ | with_reducible exact Nat.le_refl _ | with_reducible refine Kin.below _ ?_ | with_reducible refine Below.alloc ?_ ?_ _ | with_reducible refine Below.drew ?_ | with_reducible refine Kin.le _ ?_ | with_reducible refine le_alloc ?_ _ | with_reducible refine le_drew ?_ | with_reducible refine Below.setCell ?_ ?_ _ | with_reducible exact Nat.le_refl _ | (simp only [World.size_alloc]; omega) | (simp <;> omega)))) B0.out)).mono ?_); rintro e w' ⟨z2, ⟨DA, dn, dc, rfl, hd⟩, hz2, rfl⟩; (clear hd))
                go_ret2
                rw [HE.out.1, HE.out.2]
                exact ⟨⟨_, _, _, rfl, RdRegs.nil⟩, (by repeat (first | with_reducible exact Below.refl _ _ | with_reducible exact Nat.le_refl _ | with_reducible refine Kin.below _ ?_ | with_reducible refine Below.alloc ?_ ?_ _ | with_reducible refine Below.drew ?_ | with_reducible refine Kin.le _ ?_ | with_reducible refine le_alloc ?_ _ | with_reducible refine le_drew ?_ | with_reducible refine Below.setCell ?_ ?_ _ | with_reducible exact Nat.le_refl _ | (simp only [World.size_alloc]; omega) | (simp <;> omega)))⟩
          · have HE := Lib.hid (supE_ok HOKA.out (fun q hq => HS.out q (by have := HI.out; omega) hq))
            have HM := Lib.hid (show supL rs R G m = supL rs R G (rs.length - 1) from by
              by_cases h0 : rs.length - 1 ≤ m
              · rw [show m = rs.length - 1 by have := HI.out; omega]
              · exfalso; have := HI.out; omega)
            go_wp2
            go_ret2
            rw [HE.out.1, HE.out.2, ← HM.out]
            exact ⟨⟨_, _, _, rfl, HO.out.rd⟩, (by repeat (first | with_reducible exact Below.refl _ _ | with_reducible exact Nat.le_refl _ | with_reducible refine Kin.below _ ?_ | with_reducible refine Below.alloc ?_ ?_ _ | with_reducible refine Below.drew ?_ | with_reducible refine Kin.le _ ?_ | with_reducible refine le_alloc ?_ _ | with_reducible refine le_drew ?_ | with_reducible refine Below.setCell ?_ ?_ _ | with_reducible exact Nat.le_refl _ | (simp only [World.size_alloc]; omega) | (simp <;> omega)))⟩
      · have HE := Lib.hid (supE_bad (rs := rs) (R := R) (G := G) (by rw [hall]; cases h1 : reachOk R <;> cases h2 : reachOk G <;> simp_all))
        have hc : R < 0 ∨ (¬ R < 0 ∧ 64 < R) ∨ (¬ R < 0 ∧ ¬ 64 < R ∧ G < 0) ∨ (¬ R < 0 ∧ ¬ 64 < R ∧ ¬ G < 0 ∧ 64 < G) := by
          have : ¬ (0 ≤ R ∧ R ≤ 64 ∧ 0 ≤ G ∧ G ≤ 64) := fun h => hR ⟨reach_iff.2 ⟨h.1, h.2.1⟩, reach_iff.2 ⟨h.2.2.1, h.2.2.2⟩⟩
          omega
        clear HV hall hR HALL
        rcases hc with c1 | ⟨c1, c2⟩ | ⟨c1, c2, c3⟩ | ⟨c1, c2, c3, c4⟩
        all_goals
          go_wp2
          go_ret2
          rw [HE.out.1, HE.out.2]
          exact ⟨⟨_, _, _, rfl, RdRegs.nil⟩, (by repeat (first | with_reducible exact Below.refl _ _ | with_reducible exact Nat.le_refl _ | with_reducible refine Kin.below _ ?_ | with_reducible refine Below.alloc ?_ ?_ _ | with_reducible refine Below.drew ?_ | with_reducible refine Kin.le _ ?_ | with_reducible refine le_alloc ?_ _ | with_reducible refine le_drew ?_ | with_reducible refine Below.setCell ?_ ?_ _ | with_reducible exact Nat.le_refl _ | (simp only [World.size_alloc]; omega) | (simp <;> omega)))⟩
end Go.Proofs.Ytlhmopndnohnhaa

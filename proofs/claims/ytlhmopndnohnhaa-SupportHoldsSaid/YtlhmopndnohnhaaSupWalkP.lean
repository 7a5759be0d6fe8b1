/- What Supports of the program returns. -/
import Derived.Test.YtlhmopndnohnhaaSupWalkR
namespace Go.Proofs.Ytlhmopndnohnhaa
set_option linter.unusedSimpArgs false
set_option linter.unusedVariables false
open Go.RowKit Runs Reg
attribute [local go_sem] Kin.cell Kin.frozen Kin.lt0 Kin.lt1 Kin.lt2 Kin.lt3 run_mkf
set_option maxRecDepth 100000 in
set_option maxHeartbeats 32000000 in
theorem supBelow_ok (rs : List (List Reg.Row)) (R G : Int) (i m : Nat) (bL offL capL pl pr pg pv base g : Nat) (w : World)
    (cl : w.cell? ⟨pl, 0, none⟩ = some (.slice (some ⟨bL, offL, none⟩) rs.length capL)) (cr : w.cell? ⟨pr, 0, none⟩ = some (.int .i64 R)) (cg : w.cell? ⟨pg, 0, none⟩ = some (.int .i64 G)) (cv : w.cell? ⟨pv, 0, none⟩ = some (.slice (some ⟨g, 0, none⟩) rs.length rs.length))
    (ll : pl < w.heap.size) (lr : pr < w.heap.size) (lg : pg < w.heap.size) (lv : pv < w.heap.size) (hop : ∀ (i : Nat) (r : List Reg.Row), rs[i]? = some r → ∃ (S : Option Addr) (n c : Nat), w.cell? ⟨bL, offL + i, none⟩ = some (.slice S n c) ∧ RdReg w (.agg #[.slice S n c]) r) (hbL : bL < w.heap.size)
    (hlen : rs.length ≤ 256) (hall : rs.all rvalid = true) (hR : reachOk R = true) (hG : reachOk G = true) (hm : m + 2 ≤ rs.length) (hi : i = rs.length - 2 - m) (hO : OwnRegs base w g rs.length (supL rs R G m)) (hgv : g ≠ pv) (hE1 : dilE (rsAt rs i) R = 0) (hE2 : dilE (rsAt rs i) G = 0) :
    Calls Try.prog 33 #[.int .i64 i, .pointer (some ⟨pl, 0, none⟩), .pointer (some ⟨pr, 0, none⟩), .pointer (some ⟨pg, 0, none⟩), .pointer (some ⟨pv, 0, none⟩)] w fun e w' => e = .returned (.int .i64 0) ∧ OwnRegs base w' g rs.length (supL rs R G (m + 1)) ∧ w.grownBy w' (some g) := by
  have hi1 : i + 1 < rs.length := by omega
  have hi0 : i < rs.length := by omega
  have HMI := Lib.hid (show m + 2 ≤ rs.length ∧ i = rs.length - 2 - m ∧ i + 1 = rs.length - 1 - m by omega)
  obtain ⟨rl, hrl⟩ : ∃ el_, rs[i]? = some el_ := ⟨_, List.getElem?_eq_getElem hi0⟩
  obtain ⟨ru, hru⟩ : ∃ el_, rs[i + 1]? = some el_ := ⟨_, List.getElem?_eq_getElem hi1⟩
  obtain ⟨S0, n0, c0, k0, f0⟩ := hop i rl hrl
  obtain ⟨S1, n1, c1, k1, f1⟩ := hop (i + 1) ru hru
  have F0 := Lib.hid f0
  have F1 := Lib.hid f1
  have HO := Lib.hid hO
  have hv0 : rvalid rl = true := List.all_eq_true.1 hall rl (List.mem_of_getElem? hrl)
  have hv1 : rvalid ru = true := List.all_eq_true.1 hall ru (List.mem_of_getElem? hru)
  have HRL := Lib.hid (rsAt_some hrl)
  have HRU := Lib.hid (rsAt_some hru)
  have B0 := Lib.hid (rvalid_bd hv0)
  have B1 := Lib.hid (rvalid_bd hv1)
  have hwi : IntKind.i64.wrap ((i : Int) + 1) = (i : Int) + 1 := IntWalk.i64_in _ (by omega)
  have hp1 : 0 ≤ (i : Int) + 1 := by omega
  have hp2 : ((i : Int) + 1).toNat = i + 1 := by omega
  have HW := Lib.hid (⟨⟨w, Below.refl _ _⟩, rfl⟩ : ∃ z : Kin w, z.1 = w)
  have nl : w.heap.size ≠ pl := Nat.ne_of_gt ll
  have nr : w.heap.size ≠ pr := Nat.ne_of_gt lr
  have nb : w.heap.size ≠ bL := Nat.ne_of_gt hbL
  rw [HRL.out] at hE1 hE2
  have HOV := Lib.hid ((ovE_valid hv1).trans hE1)
  have HE2 := Lib.hid hE2
  clear hE1 hE2 hv1 hv0 hrl hru hop f0 f1 hO hall hR hG hi HW
  go_enter Try.func33, Try.ntmps33
  go_wp2
  go_region_held (fun w' => w'.cell? ⟨pl, 0, none⟩ = some (.slice (some ⟨bL, offL, none⟩) rs.length capL) ∧ w'.cell? ⟨pr, 0, none⟩ = some (.int .i64 R) ∧ w'.cell? ⟨bL, offL + i, none⟩ = some (.slice S0 n0 c0) ∧ w'.cell? ⟨bL, offL + (i + 1), none⟩ = some (.slice S1 n1 c1)) (refine ⟨?_, ?_, ?_, ?_⟩ <;> first | assumption | (refine (Kin.cell (W := w) _ ?_).trans ?_ <;> assumption) | simp [*, World.cell?_alloc_some, World.cell?_setCell_far] | ((refine (World.cell?_setCell_other (by simp)).trans ?_); first | assumption | simp [*])) ((go_at_call 11; (with_reducible refine (Kin.callK (W := w) (by repeat (first | with_reducible exact Below.refl _ _ | with_reducible exact Nat.le_refl _ | with_reducible refine Kin.below _ ?_ | with_reducible refine Below.alloc ?_ ?_ _ | with_reducible refine Below.drew ?_ | with_reducible refine Kin.le _ ?_ | with_reducible refine le_alloc ?_ _ | with_reducible refine le_drew ?_ | with_reducible refine Below.setCell ?_ ?_ _ | with_reducible exact Nat.le_refl _ | (simp only [World.size_alloc]; omega) | (simp <;> omega))) (ov_is _ _ ru rl R _ (F1.out.below (by repeat (first | with_reducible exact Below.refl _ _ | with_reducible exact Nat.le_refl _ | with_reducible refine Kin.below _ ?_ | with_reducible refine Below.alloc ?_ ?_ _ | with_reducible refine Below.drew ?_ | with_reducible refine Kin.le _ ?_ | with_reducible refine le_alloc ?_ _ | with_reducible refine le_drew ?_ | with_reducible refine Below.setCell ?_ ?_ _ | with_reducible exact Nat.le_refl _ | (simp only [World.size_alloc]; omega) | (simp <;> omega)))) B1.out (F0.out.below (by repeat (first | with_reducible exact Below.refl _ _ | with_reducible exact Nat.le_refl _ | with_reducible refine Kin.below _ ?_ | with_reducible refine Below.alloc ?_ ?_ _ | with_reducible refine Below.drew ?_ | with_reducible refine Kin.le _ ?_ | with_reducible refine le_alloc ?_ _ | with_reducible refine le_drew ?_ | with_reducible refine Below.setCell ?_ ?_ _ | with_reducible exact Nat.le_refl _ | (simp only [World.size_alloc]; omega) | (simp <;> omega)))) B0.out HOV.out)).mono ?_); rintro e w' ⟨z1, ⟨OA, on, oc, rfl, ho⟩, hz1, rfl⟩; (have HOO := Lib.hid ho; have kz0 : (Kin.wd z1).cell? ⟨bL, offL + i, none⟩ = some (.slice S0 n0 c0) := (z1.cell hbL).trans k0; have kz1 : (Kin.wd z1).cell? ⟨bL, offL + (i + 1), none⟩ = some (.slice S1 n1 c1) := (z1.cell hbL).trans k1; have kz2 : (Kin.wd z1).cell? ⟨pl, 0, none⟩ = some (.slice (some ⟨bL, offL, none⟩) rs.length capL) := (z1.cell ll).trans cl; have kz3 : (Kin.wd z1).cell? ⟨pr, 0, none⟩ = some (.int .i64 R) := (z1.cell lr).trans cr; have kyl : w.heap.size ≤ (Kin.wd z1).heap.size := z1.2.size; (first | have KV := Lib.hid (new_in1 hz1) | have KV := Lib.hid (new_in2 hz1) | skip); (first | (have kv0 := KV.out.cell 0; have kvf := KV.out.frozen 0; have kvl := KV.out.lt; simp at kv0) | skip); clear ho)))
  all_goals
    first
    | (obtain ⟨yo, hyo⟩ : ∃ yo : Kin w, yo.1 = z1.1.alloc (.cells #[.slice OA on oc] 24) := ⟨⟨z1.1.alloc (.cells #[.slice OA on oc] 24), (by repeat (first | with_reducible exact Below.refl _ _ | with_reducible exact Nat.le_refl _ | with_reducible refine Kin.below _ ?_ | with_reducible refine Below.alloc ?_ ?_ _ | with_reducible refine Below.drew ?_ | with_reducible refine Kin.le _ ?_ | with_reducible refine le_alloc ?_ _ | with_reducible refine le_drew ?_ | with_reducible refine Below.setCell ?_ ?_ _ | with_reducible exact Nat.le_refl _ | (simp only [World.size_alloc]; omega) | (simp <;> omega)))⟩, rfl⟩
       rw [← hyo]
       have HPO := Lib.hid (show Blk yo.1 z1.1.heap.size 24 #[.slice OA on oc] from hyo ▸ Blk.new _ _ _)
       have HOy := Lib.hid (show RdReg yo.1 (.agg #[.slice OA on oc]) (ovR ru rl R) from hyo ▸ HOO.out.below (Below.alloc (Below.refl _ _) (Nat.le_refl _) _))
       have hpo : w.heap.size ≤ z1.1.heap.size := kyl
       generalize z1.1.heap.size = po at HPO hpo ⊢
       clear hyo kz0 kz1 kz2 kz3 kyl HOO)
    | (obtain ⟨yo, hyo⟩ : ∃ yo : Kin w, yo.1 = z1.1.setCell ⟨w.heap.size, 0, none⟩ (.slice OA on oc) := ⟨⟨z1.1.setCell ⟨w.heap.size, 0, none⟩ (.slice OA on oc), Below.setCell z1.2 (Nat.le_refl _) _⟩, rfl⟩
       rw [← hyo]
       obtain ⟨po, hpe⟩ : ∃ po, po = w.heap.size := ⟨_, rfl⟩
       have HPO := Lib.hid (show Blk yo.1 po 24 #[.slice OA on oc] from by rw [hpe, hyo]; exact KV.out.set_ 0 _)
       have HOy := Lib.hid (show RdReg yo.1 (.agg #[.slice OA on oc]) (ovR ru rl R) from hyo ▸ HOO.out.set_ KV.out)
       have hpo : w.heap.size ≤ po := Nat.le_of_eq hpe.symm
       rw [show (⟨w.heap.size, 0, none⟩ : Addr) = ⟨po, 0, none⟩ from by rw [hpe]]
       clear hyo kz0 kz1 kz2 kz3 kyl HOO kv0 kvf kvl KV hpe)
    have yk0 : yo.1.cell? ⟨bL, offL + i, none⟩ = some (.slice S0 n0 c0) := (yo.cell hbL).trans k0
    have ycl : yo.1.cell? ⟨pl, 0, none⟩ = some (.slice (some ⟨bL, offL, none⟩) rs.length capL) := (yo.cell ll).trans cl
    have ycg : yo.1.cell? ⟨pg, 0, none⟩ = some (.int .i64 G) := (yo.cell lg).trans cg
    have yll := yo.lt0 ll
    have ylg := yo.lt0 lg
    have ybl := yo.lt0 hbL
    have ynl : yo.1.heap.size ≠ pl := Nat.ne_of_gt yll
    have yng : yo.1.heap.size ≠ pg := Nat.ne_of_gt ylg
    have ynb : yo.1.heap.size ≠ bL := Nat.ne_of_gt ybl
    go_wp2
    go_region_held (fun w' => w'.cell? ⟨pl, 0, none⟩ = some (.slice (some ⟨bL, offL, none⟩) rs.length capL) ∧ w'.cell? ⟨pg, 0, none⟩ = some (.int .i64 G) ∧ w'.cell? ⟨bL, offL + i, none⟩ = some (.slice S0 n0 c0)) (refine ⟨?_, ?_, ?_⟩ <;> first | assumption | (refine (Kin.cell (W := (Kin.wd yo)) _ ?_).trans ?_ <;> assumption) | simp [*, World.cell?_alloc_some, World.cell?_setCell_far] | ((refine (World.cell?_setCell_other (by simp)).trans ?_); first | assumption | simp [*])) ((go_at_call 18; (with_reducible refine (Kin.callK (W := (Kin.wd yo)) (by repeat (first | with_reducible exact Below.refl _ _ | with_reducible exact Nat.le_refl _ | with_reducible refine Kin.below _ ?_ | with_reducible refine Below.alloc ?_ ?_ _ | with_reducible refine Below.drew ?_ | with_reducible refine Kin.le _ ?_ | with_reducible refine le_alloc ?_ _ | with_reducible refine le_drew ?_ | with_reducible refine Below.setCell ?_ ?_ _ | with_reducible exact Nat.le_refl _ | (simp only [World.size_alloc]; omega) | (simp <;> omega))) (dil_is _ rl G _ (F0.out.below (by repeat (first | with_reducible exact Below.refl _ _ | with_reducible exact Nat.le_refl _ | with_reducible refine Kin.below _ ?_ | with_reducible refine Below.alloc ?_ ?_ _ | with_reducible refine Below.drew ?_ | with_reducible refine Kin.le _ ?_ | with_reducible refine le_alloc ?_ _ | with_reducible refine le_drew ?_ | with_reducible refine Below.setCell ?_ ?_ _ | with_reducible exact Nat.le_refl _ | (simp only [World.size_alloc]; omega) | (simp <;> omega)))) B0.out HE2.out)).mono ?_); rintro e w' ⟨z2, ⟨DA, dn, dc, rfl, hd⟩, hz2, rfl⟩; (have HDD := Lib.hid hd; have jz0 : (Kin.wd z2).cell? ⟨bL, offL + i, none⟩ = some (.slice S0 n0 c0) := (z2.cell ybl).trans yk0; have jz2 : (Kin.wd z2).cell? ⟨pl, 0, none⟩ = some (.slice (some ⟨bL, offL, none⟩) rs.length capL) := (z2.cell yll).trans ycl; have jz3 : (Kin.wd z2).cell? ⟨pg, 0, none⟩ = some (.int .i64 G) := (z2.cell ylg).trans ycg; have jyl : (Kin.wd yo).heap.size ≤ (Kin.wd z2).heap.size := z2.2.size; (first | have KD := Lib.hid (new_in1 hz2) | have KD := Lib.hid (new_in2 hz2) | skip); (first | (have kd0 := KD.out.cell 0; have kdf := KD.out.frozen 0; have kdl := KD.out.lt; simp at kd0) | skip); clear hd)))
    all_goals
      first
      | (obtain ⟨yd, hyd⟩ : ∃ yd : Kin w, yd.1 = z2.1.alloc (.cells #[.slice DA dn dc] 24) := ⟨⟨z2.1.alloc (.cells #[.slice DA dn dc] 24), (by repeat (first | with_reducible exact Below.refl _ _ | with_reducible exact Nat.le_refl _ | with_reducible refine Kin.below _ ?_ | with_reducible refine Below.alloc ?_ ?_ _ | with_reducible refine Below.drew ?_ | with_reducible refine Kin.le _ ?_ | with_reducible refine le_alloc ?_ _ | with_reducible refine le_drew ?_ | with_reducible refine Below.setCell ?_ ?_ _ | with_reducible exact Nat.le_refl _ | (simp only [World.size_alloc]; omega) | (simp <;> omega)))⟩, rfl⟩
         rw [← hyd]
         have HPD := Lib.hid (show Blk yd.1 z2.1.heap.size 24 #[.slice DA dn dc] from hyd ▸ Blk.new _ _ _)
         have HDy := Lib.hid (show RdReg yd.1 (.agg #[.slice DA dn dc]) (dilR rl G) from hyd ▸ HDD.out.below (Below.alloc (Below.refl _ _) (Nat.le_refl _) _))
         have HOD := Lib.hid (show Below yo.1.heap.size yo.1 yd.1 from hyd ▸ Below.alloc z2.2 z2.2.size _)
         have hpd : yo.1.heap.size ≤ z2.1.heap.size := jyl
         generalize z2.1.heap.size = pd at HPD hpd ⊢
         clear hyd HDD jz0 jz2 jz3 jyl)
      | (obtain ⟨yd, hyd⟩ : ∃ yd : Kin w, yd.1 = z2.1.setCell ⟨yo.1.heap.size, 0, none⟩ (.slice DA dn dc) := ⟨⟨z2.1.setCell ⟨yo.1.heap.size, 0, none⟩ (.slice DA dn dc), Below.setCell (yo.2.trans (z2.2.mono yo.2.size)) yo.2.size _⟩, rfl⟩
         rw [← hyd]
         have HPD := Lib.hid (show Blk yd.1 yo.1.heap.size 24 #[.slice DA dn dc] from hyd ▸ KD.out.set_ 0 _)
         have HDy := Lib.hid (show RdReg yd.1 (.agg #[.slice DA dn dc]) (dilR rl G) from hyd ▸ HDD.out.set_ KD.out)
         have HOD := Lib.hid (show Below yo.1.heap.size yo.1 yd.1 from hyd ▸ Below.setCell z2.2 (Nat.le_refl _) _)
         have hpd : yo.1.heap.size ≤ yo.1.heap.size := Nat.le_refl _
         obtain ⟨pd, hpe⟩ : ∃ pd, pd = yo.1.heap.size := ⟨_, rfl⟩
         rw [show (⟨yo.1.heap.size, 0, none⟩ : Addr) = ⟨pd, 0, none⟩ from by rw [hpe]]
         rw [← hpe] at hpd
         have HPD := Lib.hid (show Blk yd.1 pd 24 #[.slice DA dn dc] from hpe ▸ HPD.out)
         have hpd : yo.1.heap.size ≤ pd := Nat.le_of_eq hpe.symm
         clear hyd HDD jz0 jz2 jz3 jyl kd0 kdf kdl KD hpe)
      have HPOd := Lib.hid (HPO.out.below HOD.out)
      have HOyd := Lib.hid (HOy.out.below HOD.out)
      have HOd := Lib.hid (HO.out.below yd.2)
      have gw := HO.out.lt.2
      have hpol := HPO.out.lt
      have hgo : g ≠ po := Nat.ne_of_lt (Nat.lt_of_lt_of_le gw hpo)
      have hgd : g ≠ pd := Nat.ne_of_lt (Nat.lt_of_lt_of_le gw (Nat.le_trans yo.2.size hpd))
      obtain ⟨SA, sm, sc, sh, srd⟩ := HOd.out.at_ (supL_top (rs := rs) (R := R) (G := G) (m := m) (j := i + 1) hi1 (by have := HMI.out; omega))
      have HSR := Lib.hid srd
      have pd0 : yd.1.cell? ⟨pd, 0, none⟩ = some (.slice DA dn dc) := HPD.out.cell 0
      have po0 : yd.1.cell? ⟨po, 0, none⟩ = some (.slice OA on oc) := HPOd.out.cell 0
      have pv0 : yd.1.cell? ⟨pv, 0, none⟩ = some (.slice (some ⟨g, 0, none⟩) rs.length rs.length) := (yd.cell lv).trans cv
      have pdl := HPD.out.lt
      have pol := HPOd.out.lt
      have pvl := yd.lt0 lv
      have gl := HOd.out.lt.2
      clear srd HPO HOy
      go_wp2
      go_region_held (fun w' => w'.cell? ⟨pv, 0, none⟩ = some (.slice (some ⟨g, 0, none⟩) rs.length rs.length) ∧ w'.cell? ⟨g, i + 1, none⟩ = some (.slice SA sm sc) ∧ w'.cell? ⟨po, 0, none⟩ = some (.slice OA on oc) ∧ w'.cell? ⟨pd, 0, none⟩ = some (.slice DA dn dc)) (refine ⟨?_, ?_, ?_, ?_⟩ <;> first | assumption | (refine (Kin.cell (W := (Kin.wd yd)) _ ?_).trans ?_ <;> assumption) | simp [*, World.cell?_alloc_some, World.cell?_setCell_far] | ((refine (World.cell?_setCell_other (by simp)).trans ?_); first | assumption | simp [*])) (first
        | (go_at_call 20; (with_reducible refine (Kin.callK (W := (Kin.wd yd)) (by repeat (first | with_reducible exact Below.refl _ _ | with_reducible exact Nat.le_refl _ | with_reducible refine Kin.below _ ?_ | with_reducible refine Below.alloc ?_ ?_ _ | with_reducible refine Below.drew ?_ | with_reducible refine Kin.le _ ?_ | with_reducible refine le_alloc ?_ _ | with_reducible refine le_drew ?_ | with_reducible refine Below.setCell ?_ ?_ _ | with_reducible exact Nat.le_refl _ | (simp only [World.size_alloc]; omega) | (simp <;> omega))) (unionReg_two _ _ (supS rs R G m) (ovR ru rl R) _ (HSR.out.below (by repeat (first | with_reducible exact Below.refl _ _ | with_reducible exact Nat.le_refl _ | with_reducible refine Kin.below _ ?_ | with_reducible refine Below.alloc ?_ ?_ _ | with_reducible refine Below.drew ?_ | with_reducible refine Kin.le _ ?_ | with_reducible refine le_alloc ?_ _ | with_reducible refine le_drew ?_ | with_reducible refine Below.setCell ?_ ?_ _ | with_reducible exact Nat.le_refl _ | (simp only [World.size_alloc]; omega) | (simp <;> omega)))) (HOyd.out.below (by repeat (first | with_reducible exact Below.refl _ _ | with_reducible exact Nat.le_refl _ | with_reducible refine Kin.below _ ?_ | with_reducible refine Below.alloc ?_ ?_ _ | with_reducible refine Below.drew ?_ | with_reducible refine Kin.le _ ?_ | with_reducible refine le_alloc ?_ _ | with_reducible refine le_drew ?_ | with_reducible refine Below.setCell ?_ ?_ _ | with_reducible exact Nat.le_refl _ | (simp only [World.size_alloc]; omega) | (simp <;> omega)))) (rvalid_bd (supS_valid rs R G m)) (rvalid_bd (ovR_valid _ _ _)))).mono ?_); rintro e w' ⟨z3, ⟨UA, un, uc, rfl, hu⟩, hz3, rfl⟩; (have HUU := Lib.hid hu; clear hu))
        | (go_at_call 29; (with_reducible refine (Kin.callK (W := (Kin.wd yd)) (by repeat (first | with_reducible exact Below.refl _ _ | with_reducible exact Nat.le_refl _ | with_reducible refine Kin.below _ ?_ | with_reducible refine Below.alloc ?_ ?_ _ | with_reducible refine Below.drew ?_ | with_reducible refine Kin.le _ ?_ | with_reducible refine le_alloc ?_ _ | with_reducible refine le_drew ?_ | with_reducible refine Below.setCell ?_ ?_ _ | with_reducible exact Nat.le_refl _ | (simp only [World.size_alloc]; omega) | (simp <;> omega))) (subtractReg_two _ _ (rop (opf 2) (supS rs R G m) (ovR ru rl R)) (dilR rl G) _ (HUU.out.below (by repeat (first | with_reducible exact Below.refl _ _ | with_reducible exact Nat.le_refl _ | with_reducible refine Kin.below _ ?_ | with_reducible refine Below.alloc ?_ ?_ _ | with_reducible refine Below.drew ?_ | with_reducible refine Kin.le _ ?_ | with_reducible refine le_alloc ?_ _ | with_reducible refine le_drew ?_ | with_reducible refine Below.setCell ?_ ?_ _ | with_reducible exact Nat.le_refl _ | (simp only [World.size_alloc]; omega) | (simp <;> omega)))) (HDy.out.below (by repeat (first | with_reducible exact Below.refl _ _ | with_reducible exact Nat.le_refl _ | with_reducible refine Kin.below _ ?_ | with_reducible refine Below.alloc ?_ ?_ _ | with_reducible refine Below.drew ?_ | with_reducible refine Kin.le _ ?_ | with_reducible refine le_alloc ?_ _ | with_reducible refine le_drew ?_ | with_reducible refine Below.setCell ?_ ?_ _ | with_reducible exact Nat.le_refl _ | (simp only [World.size_alloc]; omega) | (simp <;> omega)))) (rvalid_bd (rop_valid (opf_ff 2) _ _)) (rvalid_bd (dilR_valid _ _)))).mono ?_); rintro e w' ⟨z4, ⟨RA, rn, rc, rfl, hrn, hr⟩, hz4, rfl⟩; (have HRR := Lib.hid hr; have HO4 := Lib.hid (HOd.out.below z4.2); have gf : (Kin.wd z4).frozen? ⟨g, i, none⟩ = false := HO4.out.frozen i; (obtain ⟨tA, tm, tc, gi, _⟩ := HO4.out.at_ (supL_get (rs := rs) (R := R) (G := G) (m := m) hi0)); have gi1 : (Kin.wd z4).cell? ⟨g, i + 1, none⟩ = some (.slice SA sm sc) := (z4.cell gl).trans sh; have go1 : (Kin.wd z4).cell? ⟨po, 0, none⟩ = some (.slice OA on oc) := (z4.cell pol).trans po0; have gd1 : (Kin.wd z4).cell? ⟨pd, 0, none⟩ = some (.slice DA dn dc) := (z4.cell pdl).trans pd0; have gv1 : (Kin.wd z4).cell? ⟨pv, 0, none⟩ = some (.slice (some ⟨g, 0, none⟩) rs.length rs.length) := (z4.cell pvl).trans pv0; have gl4 := HO4.out.lt.2; have t1 := cell_off (i := i) (u := .slice RA rn rc) gi1 (Nat.ne_of_lt (Nat.lt_succ_self i)); have t2 := cell_blk (i := i) (u := .slice RA rn rc) go1 hgo; have t3 := cell_blk (i := i) (u := .slice RA rn rc) gd1 hgd; have t4 := cell_blk (i := i) (u := .slice RA rn rc) gv1 hgv; clear hr hrn)))
      all_goals
        have hzz : Below w.heap.size w z4.1 := yd.2.trans (z4.2.mono yd.2.size)
        go_wp2
        go_ret
        refine ⟨rfl, ?_, grownBy_trans (below_grownBy hzz) (grownBy_set _)⟩
        have hst := HO4.out.store hi0 HRR.out
        rw [← supL_step (rs := rs) (R := R) (G := G) HMI.out.1, ← HMI.out.2.1]
        have e : supS rs R G (m + 1) = rop (opf 0) (rop (opf 2) (supS rs R G m) (ovR ru rl R)) (dilR rl G) := by
          show rop (opf 0) (rop (opf 2) (supS rs R G m) (ovR (rsAt rs (rs.length - 1 - m)) (rsAt rs (rs.length - 2 - m)) R)) (dilR (rsAt rs (rs.length - 2 - m)) G) = _
          rw [← HMI.out.2.2, ← HMI.out.2.1, HRL.out, HRU.out]
        rw [e]; exact hst
set_option maxRecDepth 100000 in
set_option maxHeartbeats 32000000 in
theorem supBelow_far (rs : List (List Reg.Row)) (R G : Int) (i m : Nat) (bL offL capL pl pr pg pv base g : Nat) (w : World)
    (cl : w.cell? ⟨pl, 0, none⟩ = some (.slice (some ⟨bL, offL, none⟩) rs.length capL)) (cr : w.cell? ⟨pr, 0, none⟩ = some (.int .i64 R)) (cg : w.cell? ⟨pg, 0, none⟩ = some (.int .i64 G)) (cv : w.cell? ⟨pv, 0, none⟩ = some (.slice (some ⟨g, 0, none⟩) rs.length rs.length))
    (ll : pl < w.heap.size) (lr : pr < w.heap.size) (lg : pg < w.heap.size) (lv : pv < w.heap.size) (hop : ∀ (i : Nat) (r : List Reg.Row), rs[i]? = some r → ∃ (S : Option Addr) (n c : Nat), w.cell? ⟨bL, offL + i, none⟩ = some (.slice S n c) ∧ RdReg w (.agg #[.slice S n c]) r) (hbL : bL < w.heap.size)
    (hlen : rs.length ≤ 256) (hall : rs.all rvalid = true) (hR : reachOk R = true) (hG : reachOk G = true) (hm : m + 2 ≤ rs.length) (hi : i = rs.length - 2 - m) (hO : OwnRegs base w g rs.length (supL rs R G m)) (hgv : g ≠ pv) (hE : dilE (rsAt rs i) R = 8 ∨ (dilE (rsAt rs i) R = 0 ∧ dilE (rsAt rs i) G = 8)) :
    Calls Try.prog 33 #[.int .i64 i, .pointer (some ⟨pl, 0, none⟩), .pointer (some ⟨pr, 0, none⟩), .pointer (some ⟨pg, 0, none⟩), .pointer (some ⟨pv, 0, none⟩)] w fun e w' => e = .returned (.int .i64 8) ∧ Below w.heap.size w w' := by
  have hi1 : i + 1 < rs.length := by omega
  have hi0 : i < rs.length := by omega
  have HMI := Lib.hid (show m + 2 ≤ rs.length ∧ i = rs.length - 2 - m ∧ i + 1 = rs.length - 1 - m by omega)
  obtain ⟨rl, hrl⟩ : ∃ el_, rs[i]? = some el_ := ⟨_, List.getElem?_eq_getElem hi0⟩
  obtain ⟨ru, hru⟩ : ∃ el_, rs[i + 1]? = some el_ := ⟨_, List.getElem?_eq_getElem hi1⟩
  obtain ⟨S0, n0, c0, k0, f0⟩ := hop i rl hrl
  obtain ⟨S1, n1, c1, k1, f1⟩ := hop (i + 1) ru hru
  have F0 := Lib.hid f0
  have F1 := Lib.hid f1
  have HO := Lib.hid hO
  have hv0 : rvalid rl = true := List.all_eq_true.1 hall rl (List.mem_of_getElem? hrl)
  have hv1 : rvalid ru = true := List.all_eq_true.1 hall ru (List.mem_of_getElem? hru)
  have HRL := Lib.hid (rsAt_some hrl)
  have HRU := Lib.hid (rsAt_some hru)
  have B0 := Lib.hid (rvalid_bd hv0)
  have B1 := Lib.hid (rvalid_bd hv1)
  have hwi : IntKind.i64.wrap ((i : Int) + 1) = (i : Int) + 1 := IntWalk.i64_in _ (by omega)
  have hp1 : 0 ≤ (i : Int) + 1 := by omega
  have hp2 : ((i : Int) + 1).toNat = i + 1 := by omega
  have HW := Lib.hid (⟨⟨w, Below.refl _ _⟩, rfl⟩ : ∃ z : Kin w, z.1 = w)
  have nl : w.heap.size ≠ pl := Nat.ne_of_gt ll
  have nr : w.heap.size ≠ pr := Nat.ne_of_gt lr
  have nb : w.heap.size ≠ bL := Nat.ne_of_gt hbL
  rw [HRL.out] at hE
  rcases hE with hE1 | ⟨hE1, hE2⟩
  · have HOV := Lib.hid ((ovE_valid hv1).trans hE1)
    clear hE1 hv1 hv0 hrl hru hop f0 f1 hO hall hR hG hi HW
    go_enter Try.func33, Try.ntmps33
    go_wp2
    go_region_held (fun w' => w'.cell? ⟨pl, 0, none⟩ = some (.slice (some ⟨bL, offL, none⟩) rs.length capL) ∧ w'.cell? ⟨pr, 0, none⟩ = some (.int .i64 R) ∧ w'.cell? ⟨bL, offL + i, none⟩ = some (.slice S0 n0 c0) ∧ w'.cell? ⟨bL, offL + (i + 1), none⟩ = some (.slice S1 n1 c1)) (refine ⟨?_, ?_, ?_, ?_⟩ <;> first | assumption | (refine (Kin.cell (W := w) _ ?_).trans ?_ <;> assumption) | simp [*, World.cell?_alloc_some, World.cell?_setCell_far] | ((refine (World.cell?_setCell_other (by simp)).trans ?_); first | assumption | simp [*])) ((go_at_call 11; (with_reducible refine (Kin.callK (W := w) (by repeat (first | with_reducible exact Below.refl _ _ | with_reducible exact Nat.le_refl _ | with_reducible refine Kin.below _ ?_ | with_reducible refine Below.alloc ?_ ?_ _ | with_reducible refine Below.drew ?_ | with_reducible refine Kin.le _ ?_ | with_reducible refine le_alloc ?_ _ | with_reducible refine le_drew ?_ | with_reducible refine Below.setCell ?_ ?_ _ | with_reducible exact Nat.le_refl _ | (simp only [World.size_alloc]; omega) | (simp <;> omega))) (ov_is _ _ ru rl R _ (F1.out.below (by repeat (first | with_reducible exact Below.refl _ _ | with_reducible exact Nat.le_refl _ | with_reducible refine Kin.below _ ?_ | with_reducible refine Below.alloc ?_ ?_ _ | with_reducible refine Below.drew ?_ | with_reducible refine Kin.le _ ?_ | with_reducible refine le_alloc ?_ _ | with_reducible refine le_drew ?_ | with_reducible refine Below.setCell ?_ ?_ _ | with_reducible exact Nat.le_refl _ | (simp only [World.size_alloc]; omega) | (simp <;> omega)))) B1.out (F0.out.below (by repeat (first | with_reducible exact Below.refl _ _ | with_reducible exact Nat.le_refl _ | with_reducible refine Kin.below _ ?_ | with_reducible refine Below.alloc ?_ ?_ _ | with_reducible refine Below.drew ?_ | with_reducible refine Kin.le _ ?_ | with_reducible refine le_alloc ?_ _ | with_reducible refine le_drew ?_ | with_reducible refine Below.setCell ?_ ?_ _ | with_reducible exact Nat.le_refl _ | (simp only [World.size_alloc]; omega) | (simp <;> omega)))) B0.out HOV.out)).mono ?_); rintro e w' ⟨z1, ⟨OA, on, oc, rfl, ho⟩, hz1, rfl⟩; (have HOO := Lib.hid ho; have kz0 : (Kin.wd z1).cell? ⟨bL, offL + i, none⟩ = some (.slice S0 n0 c0) := (z1.cell hbL).trans k0; have kz1 : (Kin.wd z1).cell? ⟨bL, offL + (i + 1), none⟩ = some (.slice S1 n1 c1) := (z1.cell hbL).trans k1; have kz2 : (Kin.wd z1).cell? ⟨pl, 0, none⟩ = some (.slice (some ⟨bL, offL, none⟩) rs.length capL) := (z1.cell ll).trans cl; have kz3 : (Kin.wd z1).cell? ⟨pr, 0, none⟩ = some (.int .i64 R) := (z1.cell lr).trans cr; have kyl : w.heap.size ≤ (Kin.wd z1).heap.size := z1.2.size; (first | have KV := Lib.hid (new_in1 hz1) | have KV := Lib.hid (new_in2 hz1) | skip); (first | (have kv0 := KV.out.cell 0; have kvf := KV.out.frozen 0; have kvl := KV.out.lt; simp at kv0) | skip); clear ho)))
    all_goals
      first
      | (obtain ⟨yo, hyo⟩ : ∃ yo : Kin w, yo.1 = z1.1.alloc (.cells #[.slice OA on oc] 24) := ⟨⟨z1.1.alloc (.cells #[.slice OA on oc] 24), (by repeat (first | with_reducible exact Below.refl _ _ | with_reducible exact Nat.le_refl _ | with_reducible refine Kin.below _ ?_ | with_reducible refine Below.alloc ?_ ?_ _ | with_reducible refine Below.drew ?_ | with_reducible refine Kin.le _ ?_ | with_reducible refine le_alloc ?_ _ | with_reducible refine le_drew ?_ | with_reducible refine Below.setCell ?_ ?_ _ | with_reducible exact Nat.le_refl _ | (simp only [World.size_alloc]; omega) | (simp <;> omega)))⟩, rfl⟩
         rw [← hyo]
         clear hyo)
      | (obtain ⟨yo, hyo⟩ : ∃ yo : Kin w, yo.1 = z1.1.setCell ⟨w.heap.size, 0, none⟩ (.slice OA on oc) := ⟨⟨z1.1.setCell ⟨w.heap.size, 0, none⟩ (.slice OA on oc), Below.setCell z1.2 (Nat.le_refl _) _⟩, rfl⟩
         rw [← hyo]
         clear hyo)
      go_wp2
      go_ret
      exact ⟨rfl, yo.2⟩
  · have HOV := Lib.hid ((ovE_valid hv1).trans hE1)
    have HE2 := Lib.hid hE2
    clear hE1 hE2 hv1 hv0 hrl hru hop f0 f1 hO hall hR hG hi HW
    go_enter Try.func33, Try.ntmps33
    go_wp2
    go_region_held (fun w' => w'.cell? ⟨pl, 0, none⟩ = some (.slice (some ⟨bL, offL, none⟩) rs.length capL) ∧ w'.cell? ⟨pr, 0, none⟩ = some (.int .i64 R) ∧ w'.cell? ⟨bL, offL + i, none⟩ = some (.slice S0 n0 c0) ∧ w'.cell? ⟨bL, offL + (i + 1), none⟩ = some (.slice S1 n1 c1)) (refine ⟨?_, ?_, ?_, ?_⟩ <;> first | assumption | (refine (Kin.cell (W := w) _ ?_).trans ?_ <;> assumption) | simp [*, World.cell?_alloc_some, World.cell?_setCell_far] | ((refine (World.cell?_setCell_other (by simp)).trans ?_); first | assumption | simp [*])) ((go_at_call 11; (with_reducible refine (Kin.callK (W := w) (by repeat (first | with_reducible exact Below.refl _ _ | with_reducible exact Nat.le_refl _ | with_reducible refine Kin.below _ ?_ | with_reducible refine Below.alloc ?_ ?_ _ | with_reducible refine Below.drew ?_ | with_reducible refine Kin.le _ ?_ | with_reducible refine le_alloc ?_ _ | with_reducible refine le_drew ?_ | with_reducible refine Below.setCell ?_ ?_ _ | with_reducible exact Nat.le_refl _ | (simp only [World.size_alloc]; omega) | (simp <;> omega))) (ov_is _ _ ru rl R _ (F1.out.below (by repeat (first | with_reducible exact Below.refl _ _ | with_reducible exact Nat.le_refl _ | with_reducible refine Kin.below _ ?_ | with_reducible refine Below.alloc ?_ ?_ _ | with_reducible refine Below.drew ?_ | with_reducible refine Kin.le _ ?_ | with_reducible refine le_alloc ?_ _ | with_reducible refine le_drew ?_ | with_reducible refine Below.setCell ?_ ?_ _ | with_reducible exact Nat.le_refl _ | (simp only [World.size_alloc]; omega) | (simp <;> omega)))) B1.out (F0.out.below (by repeat (first | with_reducible exact Below.refl _ _ | with_reducible exact Nat.le_refl _ | with_reducible refine Kin.below _ ?_ | with_reducible refine Below.alloc ?_ ?_ _ | with_reducible refine Below.drew ?_ | with_reducible refine Kin.le _ ?_ | with_reducible refine le_alloc ?_ _ | with_reducible refine le_drew ?_ | with_reducible refine Below.setCell ?_ ?_ _ | with_reducible exact Nat.le_refl _ | (simp only [World.size_alloc]; omega) | (simp <;> omega)))) B0.out HOV.out)).mono ?_); rintro e w' ⟨z1, ⟨OA, on, oc, rfl, ho⟩, hz1, rfl⟩; (have HOO := Lib.hid ho; have kz0 : (Kin.wd z1).cell? ⟨bL, offL + i, none⟩ = some (.slice S0 n0 c0) := (z1.cell hbL).trans k0; have kz1 : (Kin.wd z1).cell? ⟨bL, offL + (i + 1), none⟩ = some (.slice S1 n1 c1) := (z1.cell hbL).trans k1; have kz2 : (Kin.wd z1).cell? ⟨pl, 0, none⟩ = some (.slice (some ⟨bL, offL, none⟩) rs.length capL) := (z1.cell ll).trans cl; have kz3 : (Kin.wd z1).cell? ⟨pr, 0, none⟩ = some (.int .i64 R) := (z1.cell lr).trans cr; have kyl : w.heap.size ≤ (Kin.wd z1).heap.size := z1.2.size; (first | have KV := Lib.hid (new_in1 hz1) | have KV := Lib.hid (new_in2 hz1) | skip); (first | (have kv0 := KV.out.cell 0; have kvf := KV.out.frozen 0; have kvl := KV.out.lt; simp at kv0) | skip); clear ho)))
    all_goals
      first
      | (obtain ⟨yo, hyo⟩ : ∃ yo : Kin w, yo.1 = z1.1.alloc (.cells #[.slice OA on oc] 24) := ⟨⟨z1.1.alloc (.cells #[.slice OA on oc] 24), (by repeat (first | with_reducible exact Below.refl _ _ | with_reducible exact Nat.le_refl _ | with_reducible refine Kin.below _ ?_ | with_reducible refine Below.alloc ?_ ?_ _ | with_reducible refine Below.drew ?_ | with_reducible refine Kin.le _ ?_ | with_reducible refine le_alloc ?_ _ | with_reducible refine le_drew ?_ | with_reducible refine Below.setCell ?_ ?_ _ | with_reducible exact Nat.le_refl _ | (simp only [World.size_alloc]; omega) | (simp <;> omega)))⟩, rfl⟩
         rw [← hyo]
         clear hyo)
      | (obtain ⟨yo, hyo⟩ : ∃ yo : Kin w, yo.1 = z1.1.setCell ⟨w.heap.size, 0, none⟩ (.slice OA on oc) := ⟨⟨z1.1.setCell ⟨w.heap.size, 0, none⟩ (.slice OA on oc), Below.setCell z1.2 (Nat.le_refl _) _⟩, rfl⟩
         rw [← hyo]
         clear hyo)
      have yk0 : yo.1.cell? ⟨bL, offL + i, none⟩ = some (.slice S0 n0 c0) := (yo.cell hbL).trans k0
      have ycl : yo.1.cell? ⟨pl, 0, none⟩ = some (.slice (some ⟨bL, offL, none⟩) rs.length capL) := (yo.cell ll).trans cl
      have ycg : yo.1.cell? ⟨pg, 0, none⟩ = some (.int .i64 G) := (yo.cell lg).trans cg
      have yll := yo.lt0 ll
      have ylg := yo.lt0 lg
      have ybl := yo.lt0 hbL
      have ynl : yo.1.heap.size ≠ pl := Nat.ne_of_gt yll
      have yng : yo.1.heap.size ≠ pg := Nat.ne_of_gt ylg
      have ynb : yo.1.heap.size ≠ bL := Nat.ne_of_gt ybl
      go_wp2
      go_region_held (fun w' => w'.cell? ⟨pl, 0, none⟩ = some (.slice (some ⟨bL, offL, none⟩) rs.length capL) ∧ w'.cell? ⟨pg, 0, none⟩ = some (.int .i64 G) ∧ w'.cell? ⟨bL, offL + i, none⟩ = some (.slice S0 n0 c0)) (refine ⟨?_, ?_, ?_⟩ <;> first | assumption | (refine (Kin.cell (W := (Kin.wd yo)) _ ?_).trans ?_ <;> assumption) | simp [*, World.cell?_alloc_some, World.cell?_setCell_far] | ((refine (World.cell?_setCell_other (by simp)).trans ?_); first | assumption | simp [*])) ((go_at_call 18; (with_reducible refine (Kin.callK (W := (Kin.wd yo)) (by repeat (first | with_reducible exact Below.refl _ _ | with_reducible exact Nat.le_refl _ | with_reducible refine Kin.below _ ?_ | with_reducible refine Below.alloc ?_ ?_ _ | with_reducible refine Below.drew ?_ | with_reducible refine Kin.le _ ?_ | with_reducible refine le_alloc ?_ _ | with_reducible refine le_drew ?_ | with_reducible refine Below.setCell ?_ ?_ _ | with_reducible exact Nat.le_refl _ | (simp only [World.size_alloc]; omega) | (simp <;> omega))) (dil_is _ rl G _ (F0.out.below (by repeat (first | with_reducible exact Below.refl _ _ | with_reducible exact Nat.le_refl _ | with_reducible refine Kin.below _ ?_ | with_reducible refine Below.alloc ?_ ?_ _ | with_reducible refine Below.drew ?_ | with_reducible refine Kin.le _ ?_ | with_reducible refine le_alloc ?_ _ | with_reducible refine le_drew ?_ | with_reducible refine Below.setCell ?_ ?_ _ | with_reducible exact Nat.le_refl _ | (simp only [World.size_alloc]; omega) | (simp <;> omega)))) B0.out HE2.out)).mono ?_); rintro e w' ⟨z2, ⟨DA, dn, dc, rfl, hd⟩, hz2, rfl⟩; (have HDD := Lib.hid hd; have jz0 : (Kin.wd z2).cell? ⟨bL, offL + i, none⟩ = some (.slice S0 n0 c0) := (z2.cell ybl).trans yk0; have jz2 : (Kin.wd z2).cell? ⟨pl, 0, none⟩ = some (.slice (some ⟨bL, offL, none⟩) rs.length capL) := (z2.cell yll).trans ycl; have jz3 : (Kin.wd z2).cell? ⟨pg, 0, none⟩ = some (.int .i64 G) := (z2.cell ylg).trans ycg; have jyl : (Kin.wd yo).heap.size ≤ (Kin.wd z2).heap.size := z2.2.size; (first | have KD := Lib.hid (new_in1 hz2) | have KD := Lib.hid (new_in2 hz2) | skip); (first | (have kd0 := KD.out.cell 0; have kdf := KD.out.frozen 0; have kdl := KD.out.lt; simp at kd0) | skip); clear hd)))
      all_goals
        go_wp2
        go_ret
        exact ⟨rfl, by first | exact yo.2.trans (z2.2.mono yo.2.size) | exact Below.alloc (yo.2.trans (z2.2.mono yo.2.size)) (Nat.le_trans yo.2.size z2.2.size) _ | exact Below.setCell (yo.2.trans (z2.2.mono yo.2.size)) yo.2.size _⟩
end Go.Proofs.Ytlhmopndnohnhaa

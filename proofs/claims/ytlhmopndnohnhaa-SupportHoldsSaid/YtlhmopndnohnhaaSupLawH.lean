/- SupportHolds: every overhanging cell has a support below it, or the part within the gap: for every input the law returns true. No condition. -/
import Derived.Test.YtlhmopndnohnhaaSupMath
namespace Go.Proofs.Ytlhmopndnohnhaa
set_option linter.unusedSimpArgs false
set_option linter.unusedVariables false
open Go.ChangeShapes Go.WideShapes Go.ChangeAt Go.RowKit Go.Joins Runs Reg
attribute [local go_sem] Kin.cell Kin.frozen Kin.lt0 Kin.lt1 Kin.lt2 Kin.lt3 run_mkf
theorem supR_zeroH {rs : List (List Reg.Row)} {R G : Int} (h : supE rs R G ≠ 0) : (supR rs R G).length = 0 := by rw [supR_no h]; rfl
theorem sup_top (v : Value) (rs : List (List Reg.Row)) (R G : Int) (w : World) (h : RdRegs w v rs) (hbd : ∀ r ∈ rs, RBd r) (hlen : rs.length ≤ 256) (hE : supE rs R G = 0) (hn : 0 < rs.length) :
    Calls Try.prog 15 #[v, .int .i64 R, .int .i64 G] w fun e w' => (∃ b off c ST ct, e = .returned (.tuple #[.slice (some ⟨b, off, none⟩) rs.length c, .int .i64 0]) ∧ b < w'.heap.size ∧ w'.cell? ⟨b, off + (rs.length - 1), none⟩ = some (.slice ST 0 ct) ∧ RdRegs w' (.slice (some ⟨b, off, none⟩) rs.length c) (supR rs R G)) ∧ Below w.heap.size w w' := by
  refine (sup_is v rs R G w h hbd hlen hE).mono fun e w' ⟨⟨A, n, c, he, hn2, hr⟩, hb⟩ => ⟨?_, hb⟩
  rw [supR_length hE] at hn2
  subst hn2
  obtain ⟨b, off, rfl, hlt, hc⟩ := regs_op hr (rs.length - 1) _ (supR_get hE (by omega))
  obtain ⟨ST, nt, ct, h1, h2⟩ := hc (rs.length - 1) _ (supR_get hE (by omega))
  rw [sAt_top rs R G (by omega)] at h2
  obtain ⟨A2, cap2, e5⟩ := h2.slice_
  have e6 : nt = 0 := by simp at e5; exact e5.2.1
  subst e6
  exact ⟨b, off, c, ST, ct, he, hlt, h1, hr⟩
set_option maxRecDepth 100000 in
set_option maxHeartbeats 32000000 in
theorem holds_walk (W : World) (v : Value) (h : IsRegs W v) (n : Value) (hn : IsInt n) (m : Value) (hm : IsInt m) : Calls Try.prog 5 #[v, n, m] W fun e W' => e = .returned (.bool true) ∧ Below W.heap.size W W' := by
  obtain ⟨rs, h⟩ := h
  obtain ⟨R, rfl, _⟩ := hn
  obtain ⟨G, rfl, _⟩ := hm
  have H := Lib.hid h
  obtain ⟨L, capL, rfl, hcapL, hop⟩ := regs_open h
  have HOP := Lib.hid hop
  clear h hop
  cases hs : smallL rs
  · go_enter Try.func5, Try.ntmps5
    go_wp2_with (first | (go_at_call 14; (with_reducible refine (Kin.callK (W := W) (by repeat (first | with_reducible exact Below.refl _ _ | with_reducible exact Nat.le_refl _ | with_reducible refine Kin.below _ ?_ | with_reducible refine Below.alloc ?_ ?_ _ | with_reducible refine Below.drew ?_ | with_reducible refine Kin.le _ ?_ | with_reducible refine le_alloc ?_ _ | with_reducible refine le_drew ?_ | with_reducible refine Below.setCell ?_ ?_ _ | with_reducible exact Nat.le_refl _ | (simp only [World.size_alloc]; omega) | (simp <;> omega))) (small28_is _ rs _ (H.out.below (by repeat (first | with_reducible exact Below.refl _ _ | with_reducible exact Nat.le_refl _ | with_reducible refine Kin.below _ ?_ | with_reducible refine Below.alloc ?_ ?_ _ | with_reducible refine Below.drew ?_ | with_reducible refine Kin.le _ ?_ | with_reducible refine le_alloc ?_ _ | with_reducible refine le_drew ?_ | with_reducible refine Below.setCell ?_ ?_ _ | with_reducible exact Nat.le_refl _ | (simp only [World.size_alloc]; omega) | (simp <;> omega)))) hs)).mono ?_); rintro e w' ⟨z, rfl, hz, rfl⟩) | (go_at_call 10; (with_reducible refine (Kin.callK (W := W) (by repeat (first | with_reducible exact Below.refl _ _ | with_reducible exact Nat.le_refl _ | with_reducible refine Kin.below _ ?_ | with_reducible refine Below.alloc ?_ ?_ _ | with_reducible refine Below.drew ?_ | with_reducible refine Kin.le _ ?_ | with_reducible refine le_alloc ?_ _ | with_reducible refine le_drew ?_ | with_reducible refine Below.setCell ?_ ?_ _ | with_reducible exact Nat.le_refl _ | (simp only [World.size_alloc]; omega) | (simp <;> omega))) (awake31_any _)).mono ?_); rintro e w' ⟨z, rfl, hz, rfl⟩))
    go_ret
    exact ⟨rfl, (by repeat (first | with_reducible exact Below.refl _ _ | with_reducible exact Nat.le_refl _ | with_reducible refine Kin.below _ ?_ | with_reducible refine Below.alloc ?_ ?_ _ | with_reducible refine Below.drew ?_ | with_reducible refine Kin.le _ ?_ | with_reducible refine le_alloc ?_ _ | with_reducible refine le_drew ?_ | with_reducible refine Below.setCell ?_ ?_ _ | with_reducible exact Nat.le_refl _ | (simp only [World.size_alloc]; omega) | (simp <;> omega)))⟩
  have hb := smallL_bd hs
  have HBD := Lib.hid hb.2
  have hlen : rs.length ≤ 256 := Nat.le_trans hb.1 (by decide)
  rcases supE_three rs R G with hE | hE | hE
  · have HE := Lib.hid hE
    have HS1 := Lib.hid (supR_length hE)
    have HZ := Lib.hid (supE_zero hE)
    have hne : ((rs.length : Int) == (rs.length : Int)) = true := beq_self_eq_true _
    clear hE hb
    by_cases h0 : 0 < rs.length
    · have hq1 : IntKind.i64.wrap ((rs.length : Int) - 1) = (rs.length : Int) - 1 := IntWalk.i64_in _ (by omega)
      have hq2 : 0 ≤ (rs.length : Int) - 1 := by omega
      have hq3 : ((rs.length : Int) - 1).toNat = rs.length - 1 := by omega
      have hq4 : rs.length - 1 < rs.length := by omega
      go_enter Try.func5, Try.ntmps5
      go_wp2_with (first
        | (go_at_call 14; (with_reducible refine (Kin.callK (W := W) (by repeat (first | with_reducible exact Below.refl _ _ | with_reducible exact Nat.le_refl _ | with_reducible refine Kin.below _ ?_ | with_reducible refine Below.alloc ?_ ?_ _ | with_reducible refine Below.drew ?_ | with_reducible refine Kin.le _ ?_ | with_reducible refine le_alloc ?_ _ | with_reducible refine le_drew ?_ | with_reducible refine Below.setCell ?_ ?_ _ | with_reducible exact Nat.le_refl _ | (simp only [World.size_alloc]; omega) | (simp <;> omega))) (small28_is _ rs _ (H.out.below (by repeat (first | with_reducible exact Below.refl _ _ | with_reducible exact Nat.le_refl _ | with_reducible refine Kin.below _ ?_ | with_reducible refine Below.alloc ?_ ?_ _ | with_reducible refine Below.drew ?_ | with_reducible refine Kin.le _ ?_ | with_reducible refine le_alloc ?_ _ | with_reducible refine le_drew ?_ | with_reducible refine Below.setCell ?_ ?_ _ | with_reducible exact Nat.le_refl _ | (simp only [World.size_alloc]; omega) | (simp <;> omega)))) hs)).mono ?_); rintro e w' ⟨z, rfl, hz, rfl⟩; skip)
        | (go_at_call 15; (with_reducible refine (Kin.callK (W := W) (by repeat (first | with_reducible exact Below.refl _ _ | with_reducible exact Nat.le_refl _ | with_reducible refine Kin.below _ ?_ | with_reducible refine Below.alloc ?_ ?_ _ | with_reducible refine Below.drew ?_ | with_reducible refine Kin.le _ ?_ | with_reducible refine le_alloc ?_ _ | with_reducible refine le_drew ?_ | with_reducible refine Below.setCell ?_ ?_ _ | with_reducible exact Nat.le_refl _ | (simp only [World.size_alloc]; omega) | (simp <;> omega))) (sup_top _ rs R G _ (H.out.below (by repeat (first | with_reducible exact Below.refl _ _ | with_reducible exact Nat.le_refl _ | with_reducible refine Kin.below _ ?_ | with_reducible refine Below.alloc ?_ ?_ _ | with_reducible refine Below.drew ?_ | with_reducible refine Kin.le _ ?_ | with_reducible refine le_alloc ?_ _ | with_reducible refine le_drew ?_ | with_reducible refine Below.setCell ?_ ?_ _ | with_reducible exact Nat.le_refl _ | (simp only [World.size_alloc]; omega) | (simp <;> omega)))) HBD.out hlen HE.out h0)).mono ?_); rintro e w' ⟨z1, ⟨bS9, offS9, sc, ST, ct, rfl, hb9, hc9, ho⟩, hz1, rfl⟩; (have HO := Lib.hid ho; clear ho)))
      have HGS := Lib.hid (regs_op HO.out)
      go_loopw [9] (fun i wr => ∃ k : Nat, k ≤ rs.length ∧ i = .int .i64 k ∧ ∃ z : Kin z1.1, z.1 = wr) (fun i _ => rs.length - (intOf i).toNat)
      case atStart => exact ⟨0, Nat.zero_le _, rfl, ⟨_, Below.refl _ _⟩, rfl⟩
      case round =>
        obtain ⟨k, hk, rfl, z3, rfl⟩ := hrel
        have hwk : IntKind.i64.wrap ((k : Int) + 1) = (k : Int) + 1 := IntWalk.i64_in _ (by omega)
        by_cases hlt : (k : Int) + 1 < (rs.length : Int)
        · have hk1 : k + 1 < rs.length := by omega
          have hk0 : k < rs.length := by omega
          obtain ⟨rl, hrl⟩ : ∃ el_, rs[k]? = some el_ := ⟨_, List.getElem?_eq_getElem hk0⟩
          obtain ⟨ru, hru⟩ : ∃ el_, rs[k + 1]? = some el_ := ⟨_, List.getElem?_eq_getElem hk1⟩
          obtain ⟨bL, offL, rfl, hbL, hc⟩ := HOP.out k _ hrl
          obtain ⟨L0, m0, d0, l0, g0⟩ := hc k rl hrl
          obtain ⟨L1, m1, d1, l1, g1⟩ := hc (k + 1) ru hru
          obtain ⟨bX, offX, hse, hbS, hcS⟩ := HGS.out k _ (supR_get HE.out hk0)
          cases hse
          obtain ⟨S0, n0, c0, e0, f0⟩ := hcS k _ (supR_get HE.out hk0)
          obtain ⟨S1, n1, c1, e1, f1⟩ := hcS (k + 1) _ (supR_get HE.out hk1)
          have HRL := Lib.hid (rsAt_some hrl)
          have HRU := Lib.hid (rsAt_some hru)
          have B0 := Lib.hid (HBD.out rl (List.mem_of_getElem? hrl))
          have B1 := Lib.hid (HBD.out ru (List.mem_of_getElem? hru))
          have hv1 : rvalid ru = true := List.all_eq_true.1 HZ.out.1 ru (List.mem_of_getElem? hru)
          have HDE := Lib.hid (show dilE rl R = 0 ∧ dilE rl G = 0 from by have := HZ.out.2.2.2.1 k (by omega); rwa [rsAt_some hrl] at this)
          have HOV := Lib.hid ((ovE_valid hv1).trans HDE.out.1)
          have F0 := Lib.hid f0
          have F1 := Lib.hid f1
          have G0 := Lib.hid (g0.below z1.2)
          have G1 := Lib.hid (g1.below z1.2)
          have u0 : z1.1.cell? ⟨bL, offL + k, none⟩ = some (.slice L0 m0 d0) := (z1.cell hbL).trans l0
          have u1 : z1.1.cell? ⟨bL, offL + (k + 1), none⟩ = some (.slice L1 m1 d1) := (z1.cell hbL).trans l1
          have ul := z1.lt0 hbL
          have hp1 : 0 ≤ (k : Int) + 1 := by omega
          have hp2 : ((k : Int) + 1).toNat = k + 1 := by omega
          clear hrl hru hc hcS f0 f1 g0 g1 l0 l1 hv1
          have HW := Lib.hid (holds_within (rs := rs) (R := R) (G := G) hk1)
          rw [HRL.out, HRU.out] at HW
          have a0 : z3.1.cell? ⟨bL, offL + k, none⟩ = some (.slice L0 m0 d0) := (z3.cell ul).trans u0
          have a1 : z3.1.cell? ⟨bL, offL + (k + 1), none⟩ = some (.slice L1 m1 d1) := (z3.cell ul).trans u1
          have al := z3.lt0 ul
          have ane : z3.1.heap.size ≠ bL := Nat.ne_of_gt al
          go_wp2
          go_region_held (fun w' => w'.cell? ⟨bL, offL + k, none⟩ = some (.slice L0 m0 d0) ∧ w'.cell? ⟨bL, offL + (k + 1), none⟩ = some (.slice L1 m1 d1)) (refine ⟨?_, ?_⟩ <;> first | assumption | (refine (Kin.cell (W := (Kin.wd z3)) _ ?_).trans ?_ <;> assumption) | simp [*, World.cell?_alloc_some, World.cell?_setCell_far] | ((refine (World.cell?_setCell_other (by simp)).trans ?_); first | assumption | simp [*])) ((go_at_call 11; (with_reducible refine (Kin.callK (W := (Kin.wd z3)) (by repeat (first | with_reducible exact Below.refl _ _ | with_reducible exact Nat.le_refl _ | with_reducible refine Kin.below _ ?_ | with_reducible refine Below.alloc ?_ ?_ _ | with_reducible refine Below.drew ?_ | with_reducible refine Kin.le _ ?_ | with_reducible refine le_alloc ?_ _ | with_reducible refine le_drew ?_ | with_reducible refine Below.setCell ?_ ?_ _ | with_reducible exact Nat.le_refl _ | (simp only [World.size_alloc]; omega) | (simp <;> omega))) (ov_is _ _ ru rl R _ (G1.out.below (by repeat (first | with_reducible exact Below.refl _ _ | with_reducible exact Nat.le_refl _ | with_reducible refine Kin.below _ ?_ | with_reducible refine Below.alloc ?_ ?_ _ | with_reducible refine Below.drew ?_ | with_reducible refine Kin.le _ ?_ | with_reducible refine le_alloc ?_ _ | with_reducible refine le_drew ?_ | with_reducible refine Below.setCell ?_ ?_ _ | with_reducible exact Nat.le_refl _ | (simp only [World.size_alloc]; omega) | (simp <;> omega)))) B1.out (G0.out.below (by repeat (first | with_reducible exact Below.refl _ _ | with_reducible exact Nat.le_refl _ | with_reducible refine Kin.below _ ?_ | with_reducible refine Below.alloc ?_ ?_ _ | with_reducible refine Below.drew ?_ | with_reducible refine Kin.le _ ?_ | with_reducible refine le_alloc ?_ _ | with_reducible refine le_drew ?_ | with_reducible refine Below.setCell ?_ ?_ _ | with_reducible exact Nat.le_refl _ | (simp only [World.size_alloc]; omega) | (simp <;> omega)))) B0.out HOV.out)).mono ?_); rintro e w' ⟨zo, ⟨OA, on, oc, rfl, ho⟩, hz1, rfl⟩; (have HOO := Lib.hid ho; have kz0 : (Kin.wd zo).cell? ⟨bL, offL + k, none⟩ = some (.slice L0 m0 d0) := (zo.cell al).trans a0; have kz1 : (Kin.wd zo).cell? ⟨bL, offL + (k + 1), none⟩ = some (.slice L1 m1 d1) := (zo.cell al).trans a1; (first | have KV := Lib.hid (new_in1 hz1) | have KV := Lib.hid (new_in2 hz1) | skip); (first | (have kv0 := KV.out.cell 0; have kvf := KV.out.frozen 0; have kvl := KV.out.lt; simp at kv0) | skip); clear ho)))
          all_goals
            first
            | (obtain ⟨yo, hyo⟩ : ∃ yo : Kin z1.1, yo.1 = zo.1.alloc (.cells #[.slice OA on oc] 24) := ⟨⟨zo.1.alloc (.cells #[.slice OA on oc] 24), Below.alloc (z3.2.trans (zo.2.mono z3.2.size)) (Nat.le_trans z3.2.size zo.2.size) _⟩, rfl⟩
               rw [← hyo]
               have HPO := Lib.hid (show Blk yo.1 zo.1.heap.size 24 #[.slice OA on oc] from hyo ▸ Blk.new _ _ _)
               have HOy := Lib.hid (show RdReg yo.1 (.agg #[.slice OA on oc]) (ovR ru rl R) from hyo ▸ HOO.out.below (Below.alloc (Below.refl _ _) (Nat.le_refl _) _))
               generalize zo.1.heap.size = po at HPO ⊢
               clear hyo kz0 kz1 HOO)
            | (obtain ⟨yo, hyo⟩ : ∃ yo : Kin z1.1, yo.1 = zo.1.setCell ⟨z3.1.heap.size, 0, none⟩ (.slice OA on oc) := ⟨⟨zo.1.setCell ⟨z3.1.heap.size, 0, none⟩ (.slice OA on oc), Below.setCell (z3.2.trans (zo.2.mono z3.2.size)) z3.2.size _⟩, rfl⟩
               rw [← hyo]
               obtain ⟨po, hpe⟩ : ∃ po, po = z3.1.heap.size := ⟨_, rfl⟩
               have HPO := Lib.hid (show Blk yo.1 po 24 #[.slice OA on oc] from by rw [hpe, hyo]; exact KV.out.set_ 0 _)
               have HOy := Lib.hid (show RdReg yo.1 (.agg #[.slice OA on oc]) (ovR ru rl R) from hyo ▸ HOO.out.set_ KV.out)
               rw [show (⟨z3.1.heap.size, 0, none⟩ : Addr) = ⟨po, 0, none⟩ from by rw [hpe]]
               clear hyo kz0 kz1 HOO kv0 kvf kvl KV hpe)
            go_wp2_with (go_at_call 18; (with_reducible refine (Kin.callK (W := (Kin.wd yo)) (by repeat (first | with_reducible exact Below.refl _ _ | with_reducible exact Nat.le_refl _ | with_reducible refine Kin.below _ ?_ | with_reducible refine Below.alloc ?_ ?_ _ | with_reducible refine Below.drew ?_ | with_reducible refine Kin.le _ ?_ | with_reducible refine le_alloc ?_ _ | with_reducible refine le_drew ?_ | with_reducible refine Below.setCell ?_ ?_ _ | with_reducible exact Nat.le_refl _ | (simp only [World.size_alloc]; omega) | (simp <;> omega))) (dil_is _ rl G _ (G0.out.below (by repeat (first | with_reducible exact Below.refl _ _ | with_reducible exact Nat.le_refl _ | with_reducible refine Kin.below _ ?_ | with_reducible refine Below.alloc ?_ ?_ _ | with_reducible refine Below.drew ?_ | with_reducible refine Kin.le _ ?_ | with_reducible refine le_alloc ?_ _ | with_reducible refine le_drew ?_ | with_reducible refine Below.setCell ?_ ?_ _ | with_reducible exact Nat.le_refl _ | (simp only [World.size_alloc]; omega) | (simp <;> omega)))) B0.out HDE.out.2)).mono ?_); rintro e w' ⟨z2, ⟨DA, dn, dc, rfl, hd⟩, hz2, rfl⟩; (have HDD := Lib.hid hd; clear hd))
            obtain ⟨yd, hyd⟩ : ∃ yd : Kin yo.1, yd.1 = z2.1.alloc (.cells #[.slice DA dn dc] 24) := ⟨⟨z2.1.alloc (.cells #[.slice DA dn dc] 24), (by repeat (first | with_reducible exact Below.refl _ _ | with_reducible exact Nat.le_refl _ | with_reducible refine Kin.below _ ?_ | with_reducible refine Below.alloc ?_ ?_ _ | with_reducible refine Below.drew ?_ | with_reducible refine Kin.le _ ?_ | with_reducible refine le_alloc ?_ _ | with_reducible refine le_drew ?_ | with_reducible refine Below.setCell ?_ ?_ _ | with_reducible exact Nat.le_refl _ | (simp only [World.size_alloc]; omega) | (simp <;> omega)))⟩, rfl⟩
            rw [← hyd]
            have HPD := Lib.hid (show Blk yd.1 z2.1.heap.size 24 #[.slice DA dn dc] from hyd ▸ Blk.new _ _ _)
            have HDy := Lib.hid (show RdReg yd.1 (.agg #[.slice DA dn dc]) (dilR rl G) from hyd ▸ HDD.out.below (Below.alloc (Below.refl _ _) (Nat.le_refl _) _))
            have HPOd := Lib.hid (HPO.out.below yd.2)
            have HOyd := Lib.hid (HOy.out.below yd.2)
            generalize z2.1.heap.size = pd at HPD ⊢
            clear hyd HDD HPO HOy
            have pd0 : yd.1.cell? ⟨pd, 0, none⟩ = some (.slice DA dn dc) := HPD.out.cell 0
            have pdl := HPD.out.lt
            have po0 : yd.1.cell? ⟨po, 0, none⟩ = some (.slice OA on oc) := HPOd.out.cell 0
            have pol := HPOd.out.lt
            have hyz : Below z1.1.heap.size z1.1 yd.1 := yo.2.trans (yd.2.mono yo.2.size)
            have w0 : yd.1.cell? ⟨bS9, offS9 + k, none⟩ = some (.slice S0 n0 c0) := (hyz.cell (p := ⟨bS9, _, none⟩) hbS).trans e0
            have w1 : yd.1.cell? ⟨bS9, offS9 + (k + 1), none⟩ = some (.slice S1 n1 c1) := (hyz.cell (p := ⟨bS9, _, none⟩) hbS).trans e1
            have wl : bS9 < yd.1.heap.size := Nat.lt_of_lt_of_le hbS hyz.size
            go_region_held (fun w' => w'.cell? ⟨po, 0, none⟩ = some (.slice OA on oc) ∧ w'.cell? ⟨pd, 0, none⟩ = some (.slice DA dn dc) ∧ w'.cell? ⟨bS9, offS9 + k, none⟩ = some (.slice S0 n0 c0) ∧ w'.cell? ⟨bS9, offS9 + (k + 1), none⟩ = some (.slice S1 n1 c1)) (refine ⟨?_, ?_, ?_, ?_⟩ <;> first | assumption | (refine (Kin.cell (W := (Kin.wd yd)) _ ?_).trans ?_ <;> assumption) | simp [*, World.cell?_alloc_some, World.cell?_setCell_far] | ((refine (World.cell?_setCell_other (by simp)).trans ?_); first | assumption | simp [*])) (first
              | (go_at_call 20; (with_reducible refine (Kin.callK (W := (Kin.wd yd)) (by repeat (first | with_reducible exact Below.refl _ _ | with_reducible exact Nat.le_refl _ | with_reducible refine Kin.below _ ?_ | with_reducible refine Below.alloc ?_ ?_ _ | with_reducible refine Below.drew ?_ | with_reducible refine Kin.le _ ?_ | with_reducible refine le_alloc ?_ _ | with_reducible refine le_drew ?_ | with_reducible refine Below.setCell ?_ ?_ _ | with_reducible exact Nat.le_refl _ | (simp only [World.size_alloc]; omega) | (simp <;> omega))) (unionReg_two _ _ (ovR ru rl R) (sAt rs R G (k + 1)) _ (HOyd.out.below (by repeat (first | with_reducible exact Below.refl _ _ | with_reducible exact Nat.le_refl _ | with_reducible refine Kin.below _ ?_ | with_reducible refine Below.alloc ?_ ?_ _ | with_reducible refine Below.drew ?_ | with_reducible refine Kin.le _ ?_ | with_reducible refine le_alloc ?_ _ | with_reducible refine le_drew ?_ | with_reducible refine Below.setCell ?_ ?_ _ | with_reducible exact Nat.le_refl _ | (simp only [World.size_alloc]; omega) | (simp <;> omega)))) (F1.out.below (by repeat (first | with_reducible exact Below.refl _ _ | with_reducible exact Nat.le_refl _ | with_reducible refine Kin.below _ ?_ | with_reducible refine Below.alloc ?_ ?_ _ | with_reducible refine Below.drew ?_ | with_reducible refine Kin.le _ ?_ | with_reducible refine le_alloc ?_ _ | with_reducible refine le_drew ?_ | with_reducible refine Below.setCell ?_ ?_ _ | with_reducible exact Nat.le_refl _ | (simp only [World.size_alloc]; omega) | (simp <;> omega)))) (rvalid_bd (ovR_valid _ _ _)) (rvalid_bd (sAt_valid _ _ _ _)))).mono ?_); rintro e w' ⟨z5, ⟨IA, inn, ic, rfl, hi⟩, hz5, rfl⟩; (have HII := Lib.hid hi; clear hi))
              | (go_at_call 20; (with_reducible refine (Kin.callK (W := (Kin.wd yd)) (by repeat (first | with_reducible exact Below.refl _ _ | with_reducible exact Nat.le_refl _ | with_reducible refine Kin.below _ ?_ | with_reducible refine Below.alloc ?_ ?_ _ | with_reducible refine Below.drew ?_ | with_reducible refine Kin.le _ ?_ | with_reducible refine le_alloc ?_ _ | with_reducible refine le_drew ?_ | with_reducible refine Below.setCell ?_ ?_ _ | with_reducible exact Nat.le_refl _ | (simp only [World.size_alloc]; omega) | (simp <;> omega))) (unionReg_two _ _ (sAt rs R G k) (dilR rl G) _ (F0.out.below (by repeat (first | with_reducible exact Below.refl _ _ | with_reducible exact Nat.le_refl _ | with_reducible refine Kin.below _ ?_ | with_reducible refine Below.alloc ?_ ?_ _ | with_reducible refine Below.drew ?_ | with_reducible refine Kin.le _ ?_ | with_reducible refine le_alloc ?_ _ | with_reducible refine le_drew ?_ | with_reducible refine Below.setCell ?_ ?_ _ | with_reducible exact Nat.le_refl _ | (simp only [World.size_alloc]; omega) | (simp <;> omega)))) (HDy.out.below (by repeat (first | with_reducible exact Below.refl _ _ | with_reducible exact Nat.le_refl _ | with_reducible refine Kin.below _ ?_ | with_reducible refine Below.alloc ?_ ?_ _ | with_reducible refine Below.drew ?_ | with_reducible refine Kin.le _ ?_ | with_reducible refine le_alloc ?_ _ | with_reducible refine le_drew ?_ | with_reducible refine Below.setCell ?_ ?_ _ | with_reducible exact Nat.le_refl _ | (simp only [World.size_alloc]; omega) | (simp <;> omega)))) (rvalid_bd (sAt_valid _ _ _ _)) (rvalid_bd (dilR_valid _ _)))).mono ?_); rintro e w' ⟨z7, ⟨UA, un, uc, rfl, hu⟩, hz7, rfl⟩; (have HUU := Lib.hid hu; have HI7 := Lib.hid (HII.out.below hz7); clear hu))
              | (go_at_call 19; (with_reducible refine (Kin.callK (W := (Kin.wd yd)) (by repeat (first | with_reducible exact Below.refl _ _ | with_reducible exact Nat.le_refl _ | with_reducible refine Kin.below _ ?_ | with_reducible refine Below.alloc ?_ ?_ _ | with_reducible refine Below.drew ?_ | with_reducible refine Kin.le _ ?_ | with_reducible refine le_alloc ?_ _ | with_reducible refine le_drew ?_ | with_reducible refine Below.setCell ?_ ?_ _ | with_reducible exact Nat.le_refl _ | (simp only [World.size_alloc]; omega) | (simp <;> omega))) (within_is _ _ (rop (opf 2) (ovR ru rl R) (sAt rs R G (k + 1))) (rop (opf 2) (sAt rs R G k) (dilR rl G)) _ (HI7.out.below (by repeat (first | with_reducible exact Below.refl _ _ | with_reducible exact Nat.le_refl _ | with_reducible refine Kin.below _ ?_ | with_reducible refine Below.alloc ?_ ?_ _ | with_reducible refine Below.drew ?_ | with_reducible refine Kin.le _ ?_ | with_reducible refine le_alloc ?_ _ | with_reducible refine le_drew ?_ | with_reducible refine Below.setCell ?_ ?_ _ | with_reducible exact Nat.le_refl _ | (simp only [World.size_alloc]; omega) | (simp <;> omega)))) (HUU.out.below (by repeat (first | with_reducible exact Below.refl _ _ | with_reducible exact Nat.le_refl _ | with_reducible refine Kin.below _ ?_ | with_reducible refine Below.alloc ?_ ?_ _ | with_reducible refine Below.drew ?_ | with_reducible refine Kin.le _ ?_ | with_reducible refine le_alloc ?_ _ | with_reducible refine le_drew ?_ | with_reducible refine Below.setCell ?_ ?_ _ | with_reducible exact Nat.le_refl _ | (simp only [World.size_alloc]; omega) | (simp <;> omega)))) (rvalid_bd (rop_valid (opf_ff 2) _ _)) (rvalid_bd (rop_valid (opf_ff 2) _ _)) HW.out)).mono ?_); rintro e w' ⟨z8, rfl, hz8, rfl⟩; skip))
            all_goals
              go_wp2
              go_roundw
              case rel => exact ⟨k + 1, by omega, by go_num, ⟨z8.1, hyz.trans (z8.2.mono hyz.size)⟩, rfl⟩
              case measure => simp [intOf]; omega
        · go_wp2_with (go_at_call 10; (with_reducible refine (Kin.callK (W := (Kin.wd z1)) (by repeat (first | with_reducible exact Below.refl _ _ | with_reducible exact Nat.le_refl _ | with_reducible refine Kin.below _ ?_ | with_reducible refine Below.alloc ?_ ?_ _ | with_reducible refine Below.drew ?_ | with_reducible refine Kin.le _ ?_ | with_reducible refine le_alloc ?_ _ | with_reducible refine le_drew ?_ | with_reducible refine Below.setCell ?_ ?_ _ | with_reducible exact Nat.le_refl _ | (simp only [World.size_alloc]; omega) | (simp <;> omega))) (awake31_any _)).mono ?_); rintro e w' ⟨z, rfl, hz, rfl⟩)
          go_ret
          exact ⟨rfl, (by repeat (first | with_reducible exact Below.refl _ _ | with_reducible exact Nat.le_refl _ | with_reducible refine Kin.below _ ?_ | with_reducible refine Below.alloc ?_ ?_ _ | with_reducible refine Below.drew ?_ | with_reducible refine Kin.le _ ?_ | with_reducible refine le_alloc ?_ _ | with_reducible refine le_drew ?_ | with_reducible refine Below.setCell ?_ ?_ _ | with_reducible exact Nat.le_refl _ | (simp only [World.size_alloc]; omega) | (simp <;> omega)))⟩
    · go_enter Try.func5, Try.ntmps5
      go_wp2_with (first
        | (go_at_call 14; (with_reducible refine (Kin.callK (W := W) (by repeat (first | with_reducible exact Below.refl _ _ | with_reducible exact Nat.le_refl _ | with_reducible refine Kin.below _ ?_ | with_reducible refine Below.alloc ?_ ?_ _ | with_reducible refine Below.drew ?_ | with_reducible refine Kin.le _ ?_ | with_reducible refine le_alloc ?_ _ | with_reducible refine le_drew ?_ | with_reducible refine Below.setCell ?_ ?_ _ | with_reducible exact Nat.le_refl _ | (simp only [World.size_alloc]; omega) | (simp <;> omega))) (small28_is _ rs _ (H.out.below (by repeat (first | with_reducible exact Below.refl _ _ | with_reducible exact Nat.le_refl _ | with_reducible refine Kin.below _ ?_ | with_reducible refine Below.alloc ?_ ?_ _ | with_reducible refine Below.drew ?_ | with_reducible refine Kin.le _ ?_ | with_reducible refine le_alloc ?_ _ | with_reducible refine le_drew ?_ | with_reducible refine Below.setCell ?_ ?_ _ | with_reducible exact Nat.le_refl _ | (simp only [World.size_alloc]; omega) | (simp <;> omega)))) hs)).mono ?_); rintro e w' ⟨z, rfl, hz, rfl⟩; skip)
        | (go_at_call 15; (with_reducible refine (Kin.callK (W := W) (by repeat (first | with_reducible exact Below.refl _ _ | with_reducible exact Nat.le_refl _ | with_reducible refine Kin.below _ ?_ | with_reducible refine Below.alloc ?_ ?_ _ | with_reducible refine Below.drew ?_ | with_reducible refine Kin.le _ ?_ | with_reducible refine le_alloc ?_ _ | with_reducible refine le_drew ?_ | with_reducible refine Below.setCell ?_ ?_ _ | with_reducible exact Nat.le_refl _ | (simp only [World.size_alloc]; omega) | (simp <;> omega))) (sup_is _ rs R G _ (H.out.below (by repeat (first | with_reducible exact Below.refl _ _ | with_reducible exact Nat.le_refl _ | with_reducible refine Kin.below _ ?_ | with_reducible refine Below.alloc ?_ ?_ _ | with_reducible refine Below.drew ?_ | with_reducible refine Kin.le _ ?_ | with_reducible refine le_alloc ?_ _ | with_reducible refine le_drew ?_ | with_reducible refine Below.setCell ?_ ?_ _ | with_reducible exact Nat.le_refl _ | (simp only [World.size_alloc]; omega) | (simp <;> omega)))) HBD.out hlen HE.out)).mono ?_); rintro e w' ⟨z1, ⟨SA, sn, sc, rfl, hsn, ho⟩, hz1, rfl⟩; (have HO := Lib.hid ho; rw [HS1.out] at hsn; subst hsn; clear ho)))
      go_loopw [9] (fun i wr => i = .int .i64 0 ∧ ∃ z : Kin z1.1, z.1 = wr) (fun i _ => 0)
      case atStart => exact ⟨rfl, ⟨_, Below.refl _ _⟩, rfl⟩
      case round =>
        obtain ⟨rfl, z3, rfl⟩ := hrel
        have hnl : ¬ (0 : Int) + 1 < (rs.length : Int) := by omega
        have hnl2 : ¬ (1 : Int) < (rs.length : Int) := by omega
        go_wp2_with (go_at_call 10; (with_reducible refine (Kin.callK (W := (Kin.wd z1)) (by repeat (first | with_reducible exact Below.refl _ _ | with_reducible exact Nat.le_refl _ | with_reducible refine Kin.below _ ?_ | with_reducible refine Below.alloc ?_ ?_ _ | with_reducible refine Below.drew ?_ | with_reducible refine Kin.le _ ?_ | with_reducible refine le_alloc ?_ _ | with_reducible refine le_drew ?_ | with_reducible refine Below.setCell ?_ ?_ _ | with_reducible exact Nat.le_refl _ | (simp only [World.size_alloc]; omega) | (simp <;> omega))) (awake31_any _)).mono ?_); rintro e w' ⟨z, rfl, hz, rfl⟩)
        go_ret
        exact ⟨rfl, (by repeat (first | with_reducible exact Below.refl _ _ | with_reducible exact Nat.le_refl _ | with_reducible refine Kin.below _ ?_ | with_reducible refine Below.alloc ?_ ?_ _ | with_reducible refine Below.drew ?_ | with_reducible refine Kin.le _ ?_ | with_reducible refine le_alloc ?_ _ | with_reducible refine le_drew ?_ | with_reducible refine Below.setCell ?_ ?_ _ | with_reducible exact Nat.le_refl _ | (simp only [World.size_alloc]; omega) | (simp <;> omega)))⟩
  all_goals
    have HE := Lib.hid hE
    have HS0 := Lib.hid (supR_zeroH (rs := rs) (R := R) (G := G) (by rw [hE]; decide))
    clear hE hb
    go_enter Try.func5, Try.ntmps5
    go_wp2_with (first
      | (go_at_call 14; (with_reducible refine (Kin.callK (W := W) (by repeat (first | with_reducible exact Below.refl _ _ | with_reducible exact Nat.le_refl _ | with_reducible refine Kin.below _ ?_ | with_reducible refine Below.alloc ?_ ?_ _ | with_reducible refine Below.drew ?_ | with_reducible refine Kin.le _ ?_ | with_reducible refine le_alloc ?_ _ | with_reducible refine le_drew ?_ | with_reducible refine Below.setCell ?_ ?_ _ | with_reducible exact Nat.le_refl _ | (simp only [World.size_alloc]; omega) | (simp <;> omega))) (small28_is _ rs _ (H.out.below (by repeat (first | with_reducible exact Below.refl _ _ | with_reducible exact Nat.le_refl _ | with_reducible refine Kin.below _ ?_ | with_reducible refine Below.alloc ?_ ?_ _ | with_reducible refine Below.drew ?_ | with_reducible refine Kin.le _ ?_ | with_reducible refine le_alloc ?_ _ | with_reducible refine le_drew ?_ | with_reducible refine Below.setCell ?_ ?_ _ | with_reducible exact Nat.le_refl _ | (simp only [World.size_alloc]; omega) | (simp <;> omega)))) hs)).mono ?_); rintro e w' ⟨z, rfl, hz, rfl⟩; skip)
      | (go_at_call 15; (with_reducible refine (Kin.callK (W := W) (by repeat (first | with_reducible exact Below.refl _ _ | with_reducible exact Nat.le_refl _ | with_reducible refine Kin.below _ ?_ | with_reducible refine Below.alloc ?_ ?_ _ | with_reducible refine Below.drew ?_ | with_reducible refine Kin.le _ ?_ | with_reducible refine le_alloc ?_ _ | with_reducible refine le_drew ?_ | with_reducible refine Below.setCell ?_ ?_ _ | with_reducible exact Nat.le_refl _ | (simp only [World.size_alloc]; omega) | (simp <;> omega))) (sup_is _ rs R G _ (H.out.below (by repeat (first | with_reducible exact Below.refl _ _ | with_reducible exact Nat.le_refl _ | with_reducible refine Kin.below _ ?_ | with_reducible refine Below.alloc ?_ ?_ _ | with_reducible refine Below.drew ?_ | with_reducible refine Kin.le _ ?_ | with_reducible refine le_alloc ?_ _ | with_reducible refine le_drew ?_ | with_reducible refine Below.setCell ?_ ?_ _ | with_reducible exact Nat.le_refl _ | (simp only [World.size_alloc]; omega) | (simp <;> omega)))) HBD.out hlen HE.out)).mono ?_); rintro e w' ⟨z1, ⟨SA, sn, sc, rfl, hsn, ho⟩, hz1, rfl⟩; (rw [HS0.out] at hsn; subst hsn; clear ho))
      | (go_at_call 10; (with_reducible refine (Kin.callK (W := (Kin.wd z1)) (by repeat (first | with_reducible exact Below.refl _ _ | with_reducible exact Nat.le_refl _ | with_reducible refine Kin.below _ ?_ | with_reducible refine Below.alloc ?_ ?_ _ | with_reducible refine Below.drew ?_ | with_reducible refine Kin.le _ ?_ | with_reducible refine le_alloc ?_ _ | with_reducible refine le_drew ?_ | with_reducible refine Below.setCell ?_ ?_ _ | with_reducible exact Nat.le_refl _ | (simp only [World.size_alloc]; omega) | (simp <;> omega))) (awake31_any _)).mono ?_); rintro e w' ⟨z, rfl, hz, rfl⟩))
    go_ret
    exact ⟨rfl, (by repeat (first | with_reducible exact Below.refl _ _ | with_reducible exact Nat.le_refl _ | with_reducible refine Kin.below _ ?_ | with_reducible refine Below.alloc ?_ ?_ _ | with_reducible refine Below.drew ?_ | with_reducible refine Kin.le _ ?_ | with_reducible refine le_alloc ?_ _ | with_reducible refine le_drew ?_ | with_reducible refine Below.setCell ?_ ?_ _ | with_reducible exact Nat.le_refl _ | (simp only [World.size_alloc]; omega) | (simp <;> omega)))⟩
set_option maxRecDepth 100000 in
theorem supportHolds_lifted (os : Os) (started : os.Started) (H : Type) (enc : TypeId × Value → H) :
    ReturnsInHanded {} Try.checked os 5 .any (Rows.supportHoldsSpec.pre6 enc Try.prog Try.f5 Rows.supportHoldsRow.domain false) (Rows.supportHoldsSpec.post enc Try.prog Try.f5 false true false false) := by
  refine returnsInHanded_of_change (C := Try.checked) own started (by kernel_rfl) Try.func5
    (ChangeSpec.witness6 (enc := enc) (C := Try.checked) false ⟨#[], #[.slice none 0 0, .int .i64 0, .int .i64 0], []⟩ 8 (by kernel_rfl) (by kernel_rfl) (by kernel_rfl) (by kernel_rfl)) ?_
  intro W base args ds gs before hval0 hW hcnd _
  have hval : ∀ (j : Nat) t v, Try.f5.params[j]? = some t → args[j]? = some v → Value.okWide Try.prog W .any base t v := hval0
  have hW' := hW
  obtain ⟨p, q, hA0, hV, rfl, hfz, hnd⟩ := hW
  have hA : DataW.TrodAll enc Try.prog W 0 (fun _ => true) true Try.f5.params.toList args.toList ds p := hA0
  rw [Try.params5] at hA hval
  have hAA := hA
  obtain ⟨v0, vs0, d0, ds0, p0, q0, hargs, rfl, rfl, h0, r0⟩ := trodAll_cons hA
  obtain ⟨v1, vs1, d1, ds1, p1, q1, rfl, rfl, rfl, h1, r1⟩ := trodAll_cons r0
  obtain ⟨v2, vs2, d2, ds2, p2, q2, rfl, rfl, rfl, h2, r2⟩ := trodAll_cons r1
  obtain ⟨rfl, rfl, rfl⟩ := trodAll_nil r2
  obtain rfl : args = #[v0, v1, v2] := by cases args; simp_all
  obtain ⟨rfl, rfl⟩ := trodVars_none hV
  have o0 := open_regs (hval 0 32 v0 rfl rfl) h0
  have o1 := open_i64 (hval 1 3 v1 rfl rfl) h1
  have o2 := open_i64 (hval 2 3 v2 rfl rfl) h2
  have hlt : ∀ x ∈ p0 ++ (p1 ++ (p2 ++ [])), x.block < W.heap.size := fun x hx => hW'.lt x (by simpa using hx)
  refine (holds_walk W _ o0 _ o1 _ o2).mono fun e W' ⟨he, bel⟩ => ?_
  subst he
  exact ⟨_, rfl, _, _, _, [], _, [], hW', trodAll_mk1 (shut_bool Try.underlying4 _), below_trodAll laidOut bel _ _ _ _ (by
    intro t ht
    have hcl : ([32, 3, 3] : List TypeId).all (fun t => Try.prog.readableRec t && decide (t < Try.prog.types.size)) = true := by kernel_rfl
    have := List.all_eq_true.1 hcl t ht
    simpa using this) hlt hAA, rfl, bel.frame _, fun h => by cases h⟩
theorem supportHolds_heard : (Try.checked.prog.stopsHeard = true ∧ Try.checked.prog.mayEnter = true) ∧ Try.checked.prog.liftsFinal = Rows.supportHoldsRow.lifted := ⟨⟨by kernel_rfl, by kernel_rfl⟩, by kernel_rfl⟩
theorem supportHolds_calls : (Try.checked.prog.inPlace 5 = Rows.supportHoldsRow.inPlace ∧ Try.checked.prog.unfollowed 5 = Rows.supportHoldsRow.unfollowed) ∧ (Try.checked.prog.recurses 5 = Rows.supportHoldsRow.recurses ∧ Try.checked.prog.varsNamed 5 = Rows.supportHoldsRow.named) := ⟨⟨by kernel_rfl, by kernel_rfl⟩, ⟨by kernel_rfl, by kernel_rfl⟩⟩
theorem supportHolds_closed : joinedFacts Try.checked.prog 5 Try.f5 Rows.supportHoldsSpec Rows.supportHoldsRow = true := by
  unfold joinedFacts
  rw [supportHolds_calls.1.1, supportHolds_calls.1.2, supportHolds_calls.2.1, supportHolds_calls.2.2, supportHolds_heard.1.1, supportHolds_heard.1.2, supportHolds_heard.2]
  kernel_rfl
/-- SupportHolds: for every input the call returns true, and the arguments read behind it as before. No condition. -/
theorem supportHolds_holds : Rows.SupportHoldsSaid :=
  OpenClaim.holds_of_wide 5 Try.f5 rfl rfl rfl rfl rfl rfl rfl ⟨rfl, rfl, rfl, rfl, rfl⟩ rfl rfl rfl rfl rfl (by kernel_rfl) Try.func5 supportHolds_closed
    (of_decide_eq_true (by kernel_rfl)) (by unfold Func.isWrapper; rw [if_neg (of_decide_eq_false (by kernel_rfl))]; exact ⟨rfl, rfl⟩)
    (fun os started H enc _ => supportHolds_lifted os started H enc)

end Go.Proofs.Ytlhmopndnohnhaa

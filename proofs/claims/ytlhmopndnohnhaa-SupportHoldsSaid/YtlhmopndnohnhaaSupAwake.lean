/- The chapter's example of supports. -/
import Derived.Test.YtlhmopndnohnhaaSupWalk
namespace Go.Proofs.Ytlhmopndnohnhaa
set_option linter.unusedSimpArgs false
set_option linter.unusedVariables false
open Go.RowKit Runs Reg
attribute [local go_sem] Kin.cell Kin.frozen Kin.lt0 Kin.lt1 Kin.lt2 Kin.lt3 run_mkf
/-- one run in the row 0 -/
abbrev rz (a b : Int) : List Reg.Row := [(0, [(a, b)])]
theorem mem_rz {a b x y : Int} : memC (rz a b) x y = true ↔ y = 0 ∧ a ≤ x ∧ x < b := by
  rw [memC_iff]
  constructor
  · rintro ⟨w, hw, h1, h2⟩
    have e : w = (0, [(a, b)]) := by simpa using hw
    subst e
    obtain ⟨r, hr, h3, h4⟩ := mem_iff.1 h2
    have e : r = (a, b) := by simpa using hr
    subst e
    exact ⟨h1.symm, h3, h4⟩
  · rintro ⟨h1, h2, h3⟩
    exact ⟨(0, [(a, b)]), by simp, h1.symm, mem_iff.2 ⟨(a, b), by simp, h2, h3⟩⟩
theorem rz_bd (a b : Int) : RBd (rz a b) := ⟨by show 1 ≤ _; omega, fun w hw => by
  have e : w = (0, [(a, b)]) := by simpa using hw
  subst e; show 1 ≤ _; omega⟩
theorem rz01 : rvalid (rz 0 1) = true := by decide
theorem rz04 : rvalid (rz 0 4) = true := by decide
theorem rz24 : rvalid (rz 2 4) = true := by decide
theorem rz34 : rvalid (rz 3 4) = true := by decide
theorem aw_E (k : Int) (h0 : 0 ≤ k) (h1 : k ≤ 64) : dilE (rz 0 1) k = 0 := dilE_iff.2 ⟨reach_iff.2 ⟨h0, h1⟩, rz01, fun x y h => by have := mem_rz.1 h; omega⟩
theorem memC_rop' {f : Bool → Bool → Bool} (hf : f false false = false) {a b : List Reg.Row} (ha : rvalid a = true) (hb : rvalid b = true) (x y : Int) : memC (rop f a b) x y = f (memC a x y) (memC b x y) := (rop_spec hf ha hb).2 x y
theorem rop0_mem {a b : List Reg.Row} (ha : rvalid a = true) (hb : rvalid b = true) (x y : Int) : memC (rop (opf 0) a b) x y = true ↔ memC a x y = true ∧ ¬ memC b x y = true := by
  rw [memC_rop' (opf_ff 0) ha hb]
  show (_ && !_) = true ↔ _
  simp
theorem rop1_mem {a b : List Reg.Row} (ha : rvalid a = true) (hb : rvalid b = true) (x y : Int) : memC (rop (opf 1) a b) x y = true ↔ memC a x y = true ∧ memC b x y = true := by
  rw [memC_rop' (opf_ff 1) ha hb]
  show (_ && _) = true ↔ _
  simp
theorem rop2_mem {a b : List Reg.Row} (ha : rvalid a = true) (hb : rvalid b = true) (x y : Int) : memC (rop (opf 2) a b) x y = true ↔ memC a x y = true ∨ memC b x y = true := by
  rw [memC_rop' (opf_ff 2) ha hb]
  show (_ || _) = true ↔ _
  simp
theorem aw_ovE : ovE (rz 0 4) (rz 0 1) 1 = 0 := (ovE_valid rz04).trans (aw_E 1 (by decide) (by decide))
theorem aw_ov : ovR (rz 0 4) (rz 0 1) 1 = rz 2 4 := by
  unfold ovR
  rw [if_pos aw_ovE]
  refine reg_ext (rop_valid (opf_ff 0) _ _) rz24 fun x y => ?_
  rw [rop0_mem rz04 (dilR_valid _ _), dilR_mem (aw_E 1 (by decide) (by decide)), mem_rz, mem_rz]
  constructor
  · rintro ⟨h1, h2⟩
    refine ⟨h1.1, ?_, h1.2.2⟩
    apply Classical.byContradiction
    intro h3
    exact h2 ⟨0, 0, by omega, by omega, by omega, by omega, mem_rz.2 ⟨rfl, by omega, by omega⟩⟩
  · rintro ⟨h1, h2, h3⟩
    refine ⟨⟨h1, by omega, h3⟩, ?_⟩
    rintro ⟨j, i, h4, h5, h6, h7, h8⟩
    have := mem_rz.1 h8
    omega
theorem aw_supE : supE [rz 0 1, rz 0 4] 1 2 = 0 ∧ supR [rz 0 1, rz 0 4] 1 2 = [rz 3 4, []] := by
  have h := supE_ok (rs := [rz 0 1, rz 0 4]) (R := 1) (G := 2) (by decide) (fun i hi => by
    have : i = 0 := by simp at hi; omega
    subst this
    unfold supOk
    rw [show rsAt [rz 0 1, rz 0 4] 0 = rz 0 1 from rfl, aw_E 1 (by decide) (by decide), aw_E 2 (by decide) (by decide)]
    rfl)
  refine ⟨h.1, h.2.trans ?_⟩
  show [supS [rz 0 1, rz 0 4] 1 2 1, []] = _
  have e : supS [rz 0 1, rz 0 4] 1 2 1 = rz 3 4 := by
    show rop (opf 0) (rop (opf 2) [] (ovR (rz 0 4) (rz 0 1) 1)) (dilR (rz 0 1) 2) = _
    rw [aw_ov]
    refine reg_ext (rop_valid (opf_ff 0) _ _) rz34 fun x y => ?_
    rw [rop0_mem (rop_valid (opf_ff 2) _ _) (dilR_valid _ _), rop2_mem rvalid_nil rz24, dilR_mem (aw_E 2 (by decide) (by decide)), mem_rz, mem_rz, memC_nil]
    constructor
    · rintro ⟨h1, h2⟩
      have h1 : y = 0 ∧ 2 ≤ x ∧ x < 4 := by rcases h1 with h1 | h1
                                            · cases h1
                                            · exact h1
      refine ⟨h1.1, ?_, h1.2.2⟩
      apply Classical.byContradiction
      intro h3
      exact h2 ⟨0, 0, by omega, by omega, by omega, by omega, mem_rz.2 ⟨rfl, by omega, by omega⟩⟩
    · rintro ⟨h1, h2, h3⟩
      refine ⟨.inr ⟨h1, by omega, h3⟩, ?_⟩
      rintro ⟨j, i, h4, h5, h6, h7, h8⟩
      have := mem_rz.1 h8
      omega
  rw [e]
set_option maxRecDepth 100000 in
set_option maxHeartbeats 4000000 in
theorem row31_any (x y : Int) (w : World) :
    Calls Try.prog 27 #[.int .i64 x, .int .i64 y] w fun e w' => (∃ A c, e = .returned (.agg #[.slice A 1 c]) ∧ RdReg w' (.agg #[.slice A 1 c]) (rz x y)) ∧ Below w.heap.size w w' := by
  go_enter Try.func27, Try.ntmps27
  go_wp2
  ((try simp only [Exit.inBlock, Exit.then]); refine bodyPost_ret (results_cell_row rfl _ _ _ _ _ (0, 0) _ rfl ((Blk.new w 24 #[.slice (some ⟨w.heap.size + 1 + 1, 0, none⟩) 1 1]).below (Below.alloc (Below.alloc (Below.refl _ _) (Nat.le_refl _) _) (le_alloc (Nat.le_refl _) _) _)) Try.underlying24 rfl (by kernel_rfl)) rfl ?_)
  refine ⟨⟨_, _, rfl, _, rfl, [(0, some ⟨w.heap.size + 1, 0, none⟩, 1, 1)], rd_one _ encRow_len _ (0, some ⟨w.heap.size + 1, 0, none⟩, 1, 1) _ rfl, rfl, fun i h r hh hr => ?_⟩, (by repeat (first | with_reducible exact Below.refl _ _ | with_reducible exact Nat.le_refl _ | with_reducible refine Kin.below _ ?_ | with_reducible refine Below.alloc ?_ ?_ _ | with_reducible refine Below.drew ?_ | with_reducible refine Kin.le _ ?_ | with_reducible refine le_alloc ?_ _ | with_reducible refine le_drew ?_ | with_reducible refine Below.setCell ?_ ?_ _ | with_reducible exact Nat.le_refl _ | (simp only [World.size_alloc]; omega) | (simp <;> omega)))⟩
  match i, hh, hr with
  | 0, hh, hr =>
    simp at hh hr
    subst hh hr
    exact ⟨rfl, (rd_one (w.alloc (.cells #[.slice (some ⟨w.heap.size + 1 + 1, 0, none⟩) 1 1] 24)) encRun_len 53 (x, y) _ rfl).below (Below.alloc (Below.refl _ _) (Nat.le_refl _) _)⟩
  | i + 1, hh, hr => simp at hh
theorem regs2 {W : World} {A1 A2 : Option Addr} {n1 n2 c1 c2 : Nat} {r1 r2 : List Reg.Row} (h1 : RdReg W (.agg #[.slice A1 n1 c1]) r1) (h2 : RdReg W (.agg #[.slice A2 n2 c2]) r2) {b : Nat} (hb : b = W.heap.size := by simp) :
    RdRegs (W.alloc (.cells #[.slice A1 n1 c1, .slice A2 n2 c2] 24)) (.slice (some ⟨b, 0, none⟩) 2 2) [r1, r2] := by
  refine regs_lit [(A1, n1, c1), (A2, n2, c2)] [r1, r2] rfl (fun i h r hh hr => ?_) (by unfold maxLen; simp) rfl rfl hb
  match i, hh, hr with
  | 0, hh, hr => simp at hh hr; subst hh hr; exact h1
  | 1, hh, hr => simp at hh hr; subst hh hr; exact h2
  | i + 2, hh, hr => simp at hh
theorem sup_aw (v : Value) (w : World) (h : RdRegs w v [rz 0 1, rz 0 4]) :
    Calls Try.prog 15 #[v, .int .i64 1, .int .i64 2] w fun e w' => (∃ b off c S0 n0 c0 S1 c1, e = .returned (.tuple #[.slice (some ⟨b, off, none⟩) 2 c, .int .i64 0]) ∧ b < w'.heap.size ∧ w'.cell? ⟨b, off, none⟩ = some (.slice S0 n0 c0) ∧ RdReg w' (.agg #[.slice S0 n0 c0]) (rz 3 4) ∧ w'.cell? ⟨b, off + 1, none⟩ = some (.slice S1 0 c1)) ∧ Below w.heap.size w w' := by
  refine (sup_any v [rz 0 1, rz 0 4] 1 2 w h (fun r hr => by
    have : r = rz 0 1 ∨ r = rz 0 4 := by simpa using hr
    rcases this with rfl | rfl <;> exact rz_bd _ _) (by decide)).mono fun e w' ⟨⟨A, n, c, he, hr⟩, hb⟩ => ⟨?_, hb⟩
  rw [aw_supE.1] at he
  rw [aw_supE.2] at hr
  obtain ⟨A', cap, e1, e2, hop⟩ := regs_open hr
  injection e1 with e1 e3 e4
  subst e1 e3 e4
  obtain ⟨b, off, rfl, hlt, hc⟩ := hop 0 _ rfl
  obtain ⟨S0, n0, c0, h1, h2⟩ := hc 0 _ rfl
  obtain ⟨S1, n1, c1, h3, h4⟩ := hc 1 _ rfl
  obtain ⟨A2, cap2, e5⟩ := h4.slice_
  have e6 : n1 = 0 := by simp at e5; exact e5.2.1
  subst e6
  exact ⟨b, off, c, S0, n0, c0, S1, c1, he, hlt, h1, h2, h3⟩
theorem ov_aw (v u : Value) (w : World) (h : RdReg w v (rz 0 4)) (h2 : RdReg w u (rz 0 1)) :
    Calls Try.prog 11 #[v, u, .int .i64 1] w fun e w' => (∃ A n c, e = .returned (.tuple #[.agg #[.slice A n c], .int .i64 0]) ∧ RdReg w' (.agg #[.slice A n c]) (rz 2 4)) ∧ Below w.heap.size w w' := by
  have := ov_is v u (rz 0 4) (rz 0 1) 1 w h (rz_bd _ _) h2 (rz_bd _ _) aw_ovE
  rwa [aw_ov] at this
set_option maxRecDepth 100000 in
set_option maxHeartbeats 8000000 in
theorem awake31_any (w : World) : Calls Try.prog 10 #[] w fun e w' => e = .returned (.bool true) ∧ Below w.heap.size w w' := by
  go_enter Try.func10, Try.ntmps10
  go_wp2_with (first
    | (go_at_call 27; (with_reducible refine (Kin.callK (W := w) (by repeat (first | with_reducible exact Below.refl _ _ | with_reducible exact Nat.le_refl _ | with_reducible refine Kin.below _ ?_ | with_reducible refine Below.alloc ?_ ?_ _ | with_reducible refine Below.drew ?_ | with_reducible refine Kin.le _ ?_ | with_reducible refine le_alloc ?_ _ | with_reducible refine le_drew ?_ | with_reducible refine Below.setCell ?_ ?_ _ | with_reducible exact Nat.le_refl _ | (simp only [World.size_alloc]; omega) | (simp <;> omega))) (row31_any 0 1 _)).mono ?_); rintro e w' ⟨z1, ⟨A1, c1, rfl, ha⟩, hz, rfl⟩; (have R1 := Lib.hid ha; clear ha))
    | (go_at_call 27; (with_reducible refine (Kin.callK (W := (Kin.wd z1)) (by repeat (first | with_reducible exact Below.refl _ _ | with_reducible exact Nat.le_refl _ | with_reducible refine Kin.below _ ?_ | with_reducible refine Below.alloc ?_ ?_ _ | with_reducible refine Below.drew ?_ | with_reducible refine Kin.le _ ?_ | with_reducible refine le_alloc ?_ _ | with_reducible refine le_drew ?_ | with_reducible refine Below.setCell ?_ ?_ _ | with_reducible exact Nat.le_refl _ | (simp only [World.size_alloc]; omega) | (simp <;> omega))) (row31_any 0 4 _)).mono ?_); rintro e w' ⟨z4, ⟨A4, c4, rfl, hb⟩, hz4, rfl⟩; (have R4 := Lib.hid hb; have R14 := Lib.hid (R1.out.below z4.2); clear hb)))
  obtain ⟨yl, hX⟩ : ∃ yl : Kin w, yl.1 = z4.1.alloc (.cells #[.slice A1 1 c1, .slice A4 1 c4] 24) := ⟨⟨z4.1.alloc (.cells #[.slice A1 1 c1, .slice A4 1 c4] 24), (by repeat (first | with_reducible exact Below.refl _ _ | with_reducible exact Nat.le_refl _ | with_reducible refine Kin.below _ ?_ | with_reducible refine Below.alloc ?_ ?_ _ | with_reducible refine Below.drew ?_ | with_reducible refine Kin.le _ ?_ | with_reducible refine le_alloc ?_ _ | with_reducible refine le_drew ?_ | with_reducible refine Below.setCell ?_ ?_ _ | with_reducible exact Nat.le_refl _ | (simp only [World.size_alloc]; omega) | (simp <;> omega)))⟩, rfl⟩
  rw [← hX]
  have HL := Lib.hid (show RdRegs yl.1 (.slice (some ⟨z4.1.heap.size, 0, none⟩) 2 2) [rz 0 1, rz 0 4] from hX ▸ regs2 R14.out R4.out rfl)
  have HB := Lib.hid (show Blk yl.1 z4.1.heap.size 24 #[.slice A1 1 c1, .slice A4 1 c4] from hX ▸ Blk.new _ _ _)
  have h4y : Below z4.1.heap.size z4.1 yl.1 := hX ▸ Below.alloc (Below.refl _ _) (Nat.le_refl _) _
  have Q1 := Lib.hid (R14.out.below h4y)
  have Q4 := Lib.hid (R4.out.below h4y)
  have k0 : yl.1.cell? ⟨z4.1.heap.size, 0, none⟩ = some (.slice A1 1 c1) := HB.out.cell 0
  have k1 : yl.1.cell? ⟨z4.1.heap.size, 1, none⟩ = some (.slice A4 1 c4) := HB.out.cell 1
  have kl := HB.out.lt
  have kne : yl.1.heap.size ≠ z4.1.heap.size := Nat.ne_of_gt kl
  clear hX h4y hz hz4 R1 R4 R14
  go_region_held (fun w' => w'.cell? ⟨(Kin.wd z4).heap.size, 0, none⟩ = some (.slice A1 1 c1) ∧ w'.cell? ⟨(Kin.wd z4).heap.size, 1, none⟩ = some (.slice A4 1 c4)) (refine ⟨?_, ?_⟩ <;> first | assumption | (refine (Kin.cell (W := (Kin.wd yl)) _ ?_).trans ?_ <;> assumption) | simp [*, World.cell?_alloc_some, World.cell?_setCell_far] | ((refine (World.cell?_setCell_other (by simp)).trans ?_); first | assumption | simp [*])) ((go_at_call 11; (with_reducible refine (Kin.callK (W := (Kin.wd yl)) (by repeat (first | with_reducible exact Below.refl _ _ | with_reducible exact Nat.le_refl _ | with_reducible refine Kin.below _ ?_ | with_reducible refine Below.alloc ?_ ?_ _ | with_reducible refine Below.drew ?_ | with_reducible refine Kin.le _ ?_ | with_reducible refine le_alloc ?_ _ | with_reducible refine le_drew ?_ | with_reducible refine Below.setCell ?_ ?_ _ | with_reducible exact Nat.le_refl _ | (simp only [World.size_alloc]; omega) | (simp <;> omega))) (ov_aw _ _ _ (Q4.out.below (by repeat (first | with_reducible exact Below.refl _ _ | with_reducible exact Nat.le_refl _ | with_reducible refine Kin.below _ ?_ | with_reducible refine Below.alloc ?_ ?_ _ | with_reducible refine Below.drew ?_ | with_reducible refine Kin.le _ ?_ | with_reducible refine le_alloc ?_ _ | with_reducible refine le_drew ?_ | with_reducible refine Below.setCell ?_ ?_ _ | with_reducible exact Nat.le_refl _ | (simp only [World.size_alloc]; omega) | (simp <;> omega)))) (Q1.out.below (by repeat (first | with_reducible exact Below.refl _ _ | with_reducible exact Nat.le_refl _ | with_reducible refine Kin.below _ ?_ | with_reducible refine Below.alloc ?_ ?_ _ | with_reducible refine Below.drew ?_ | with_reducible refine Kin.le _ ?_ | with_reducible refine le_alloc ?_ _ | with_reducible refine le_drew ?_ | with_reducible refine Below.setCell ?_ ?_ _ | with_reducible exact Nat.le_refl _ | (simp only [World.size_alloc]; omega) | (simp <;> omega)))))).mono ?_); rintro e w' ⟨z1, ⟨OA, on, oc, rfl, ho⟩, hz1, rfl⟩; (have HOO := Lib.hid ho; have kz0 : (Kin.wd z1).cell? ⟨(Kin.wd z4).heap.size, 0, none⟩ = some (.slice A1 1 c1) := (z1.cell kl).trans k0; have kz1 : (Kin.wd z1).cell? ⟨(Kin.wd z4).heap.size, 1, none⟩ = some (.slice A4 1 c4) := (z1.cell kl).trans k1; have kyl : (Kin.wd yl).heap.size ≤ (Kin.wd z1).heap.size := z1.2.size; (first | have KV := Lib.hid (new_in1 hz1) | have KV := Lib.hid (new_in2 hz1) | skip); (first | (have kv0 := KV.out.cell 0; have kvf := KV.out.frozen 0; have kvl := KV.out.lt; simp at kv0) | skip); clear ho)))
  all_goals
    first
    | (obtain ⟨yo, hyo⟩ : ∃ yo : Kin w, yo.1 = z1.1.alloc (.cells #[.slice OA on oc] 24) := ⟨⟨z1.1.alloc (.cells #[.slice OA on oc] 24), Below.alloc (yl.2.trans (z1.2.mono yl.2.size)) (Nat.le_trans yl.2.size z1.2.size) _⟩, rfl⟩
       rw [← hyo]
       have HPO := Lib.hid (show Blk yo.1 z1.1.heap.size 24 #[.slice OA on oc] from hyo ▸ Blk.new _ _ _)
       have HOy := Lib.hid (show RdReg yo.1 (.agg #[.slice OA on oc]) (rz 2 4) from hyo ▸ HOO.out.below (Below.alloc (Below.refl _ _) (Nat.le_refl _) _))
       have HLy := Lib.hid (HL.out.below (show Below yl.1.heap.size yl.1 yo.1 from hyo ▸ Below.alloc z1.2 z1.2.size _))
       generalize z1.1.heap.size = po at HPO ⊢
       clear hyo kz0 kz1 kyl HOO)
    | (obtain ⟨yo, hyo⟩ : ∃ yo : Kin w, yo.1 = z1.1.setCell ⟨yl.1.heap.size, 0, none⟩ (.slice OA on oc) := ⟨⟨z1.1.setCell ⟨yl.1.heap.size, 0, none⟩ (.slice OA on oc), Below.setCell (yl.2.trans (z1.2.mono yl.2.size)) yl.2.size _⟩, rfl⟩
       rw [← hyo]
       obtain ⟨po, hpe⟩ : ∃ po, po = yl.1.heap.size := ⟨_, rfl⟩
       have HPO := Lib.hid (show Blk yo.1 po 24 #[.slice OA on oc] from by rw [hpe, hyo]; exact KV.out.set_ 0 _)
       have HOy := Lib.hid (show RdReg yo.1 (.agg #[.slice OA on oc]) (rz 2 4) from hyo ▸ HOO.out.set_ KV.out)
       have HLy := Lib.hid (HL.out.below (show Below yl.1.heap.size yl.1 yo.1 from hyo ▸ Below.setCell z1.2 (Nat.le_refl _) _))
       rw [show (⟨yl.1.heap.size, 0, none⟩ : Addr) = ⟨po, 0, none⟩ from by rw [hpe]]
       clear hyo kz0 kz1 kyl HOO kv0 kvf kvl KV hpe)
    have po0 : yo.1.cell? ⟨po, 0, none⟩ = some (.slice OA on oc) := HPO.out.cell 0
    have pol := HPO.out.lt
    go_wp2_with (go_at_call 15; (with_reducible refine (Kin.callK (W := (Kin.wd yo)) (by repeat (first | with_reducible exact Below.refl _ _ | with_reducible exact Nat.le_refl _ | with_reducible refine Kin.below _ ?_ | with_reducible refine Below.alloc ?_ ?_ _ | with_reducible refine Below.drew ?_ | with_reducible refine Kin.le _ ?_ | with_reducible refine le_alloc ?_ _ | with_reducible refine le_drew ?_ | with_reducible refine Below.setCell ?_ ?_ _ | with_reducible exact Nat.le_refl _ | (simp only [World.size_alloc]; omega) | (simp <;> omega))) (sup_aw _ _ (HLy.out.below (by repeat (first | with_reducible exact Below.refl _ _ | with_reducible exact Nat.le_refl _ | with_reducible refine Kin.below _ ?_ | with_reducible refine Below.alloc ?_ ?_ _ | with_reducible refine Below.drew ?_ | with_reducible refine Kin.le _ ?_ | with_reducible refine le_alloc ?_ _ | with_reducible refine le_drew ?_ | with_reducible refine Below.setCell ?_ ?_ _ | with_reducible exact Nat.le_refl _ | (simp only [World.size_alloc]; omega) | (simp <;> omega)))))).mono ?_); rintro e w' ⟨z3, ⟨gb, go, gc, S0, n0, c0, S1, c1', rfl, hgl, hg0, hrd, hg1⟩, hz3, rfl⟩; (have HRD := Lib.hid hrd; clear hrd))
    have q0 : z3.1.cell? ⟨po, 0, none⟩ = some (.slice OA on oc) := (z3.cell pol).trans po0
    have ql := z3.lt0 pol
    have HOz := Lib.hid (HOy.out.below z3.2)
    go_region_held (fun w' => w'.cell? ⟨po, 0, none⟩ = some (.slice OA on oc) ∧ w'.cell? ⟨gb, go, none⟩ = some (.slice S0 n0 c0) ∧ w'.cell? ⟨gb, go + 1, none⟩ = some (.slice S1 0 c1')) (refine ⟨?_, ?_, ?_⟩ <;> first | assumption | (refine (Kin.cell (W := (Kin.wd z3)) _ ?_).trans ?_ <;> assumption) | simp [*, World.cell?_alloc_some, World.cell?_setCell_far] | ((refine (World.cell?_setCell_other (by simp)).trans ?_); first | assumption | simp [*])) (first | (go_at_call 27; (with_reducible refine (Kin.callK (W := (Kin.wd z3)) (by repeat (first | with_reducible exact Below.refl _ _ | with_reducible exact Nat.le_refl _ | with_reducible refine Kin.below _ ?_ | with_reducible refine Below.alloc ?_ ?_ _ | with_reducible refine Below.drew ?_ | with_reducible refine Kin.le _ ?_ | with_reducible refine le_alloc ?_ _ | with_reducible refine le_drew ?_ | with_reducible refine Below.setCell ?_ ?_ _ | with_reducible exact Nat.le_refl _ | (simp only [World.size_alloc]; omega) | (simp <;> omega))) (row31_any 2 4 _)).mono ?_); rintro e w' ⟨zr, ⟨A, c, rfl, ha⟩, hzr, rfl⟩; (have RR := Lib.hid ha; clear ha)) | (go_at_call 27; (with_reducible refine (Kin.callK (W := (Kin.wd z3)) (by repeat (first | with_reducible exact Below.refl _ _ | with_reducible exact Nat.le_refl _ | with_reducible refine Kin.below _ ?_ | with_reducible refine Below.alloc ?_ ?_ _ | with_reducible refine Below.drew ?_ | with_reducible refine Kin.le _ ?_ | with_reducible refine le_alloc ?_ _ | with_reducible refine le_drew ?_ | with_reducible refine Below.setCell ?_ ?_ _ | with_reducible exact Nat.le_refl _ | (simp only [World.size_alloc]; omega) | (simp <;> omega))) (row31_any 3 4 _)).mono ?_); rintro e w' ⟨zr, ⟨A, c, rfl, ha⟩, hzr, rfl⟩; (have RR := Lib.hid ha; clear ha)) | (go_at_call 13; (with_reducible refine (Kin.callK (W := (Kin.wd z3)) (by repeat (first | with_reducible exact Below.refl _ _ | with_reducible exact Nat.le_refl _ | with_reducible refine Kin.below _ ?_ | with_reducible refine Below.alloc ?_ ?_ _ | with_reducible refine Below.drew ?_ | with_reducible refine Kin.le _ ?_ | with_reducible refine le_alloc ?_ _ | with_reducible refine le_drew ?_ | with_reducible refine Below.setCell ?_ ?_ _ | with_reducible exact Nat.le_refl _ | (simp only [World.size_alloc]; omega) | (simp <;> omega))) (same18_t (a := rz 2 4) (b := rz 2 4) _ _ _ (HOz.out.below (by repeat (first | with_reducible exact Below.refl _ _ | with_reducible exact Nat.le_refl _ | with_reducible refine Kin.below _ ?_ | with_reducible refine Below.alloc ?_ ?_ _ | with_reducible refine Below.drew ?_ | with_reducible refine Kin.le _ ?_ | with_reducible refine le_alloc ?_ _ | with_reducible refine le_drew ?_ | with_reducible refine Below.setCell ?_ ?_ _ | with_reducible exact Nat.le_refl _ | (simp only [World.size_alloc]; omega) | (simp <;> omega)))) RR.out (rz_bd _ _) (rz_bd _ _) rfl)).mono ?_); rintro e w' ⟨z, rfl, hz, rfl⟩) | (go_at_call 13; (with_reducible refine (Kin.callK (W := (Kin.wd z3)) (by repeat (first | with_reducible exact Below.refl _ _ | with_reducible exact Nat.le_refl _ | with_reducible refine Kin.below _ ?_ | with_reducible refine Below.alloc ?_ ?_ _ | with_reducible refine Below.drew ?_ | with_reducible refine Kin.le _ ?_ | with_reducible refine le_alloc ?_ _ | with_reducible refine le_drew ?_ | with_reducible refine Below.setCell ?_ ?_ _ | with_reducible exact Nat.le_refl _ | (simp only [World.size_alloc]; omega) | (simp <;> omega))) (same18_t (a := rz 3 4) (b := rz 3 4) _ _ _ (HRD.out.below (by repeat (first | with_reducible exact Below.refl _ _ | with_reducible exact Nat.le_refl _ | with_reducible refine Kin.below _ ?_ | with_reducible refine Below.alloc ?_ ?_ _ | with_reducible refine Below.drew ?_ | with_reducible refine Kin.le _ ?_ | with_reducible refine le_alloc ?_ _ | with_reducible refine le_drew ?_ | with_reducible refine Below.setCell ?_ ?_ _ | with_reducible exact Nat.le_refl _ | (simp only [World.size_alloc]; omega) | (simp <;> omega)))) RR.out (rz_bd _ _) (rz_bd _ _) rfl)).mono ?_); rintro e w' ⟨z, rfl, hz, rfl⟩))
    all_goals
      go_wp2
      go_ret
      exact ⟨rfl, (by repeat (first | with_reducible exact Below.refl _ _ | with_reducible exact Nat.le_refl _ | with_reducible refine Kin.below _ ?_ | with_reducible refine Below.alloc ?_ ?_ _ | with_reducible refine Below.drew ?_ | with_reducible refine Kin.le _ ?_ | with_reducible refine le_alloc ?_ _ | with_reducible refine le_drew ?_ | with_reducible refine Below.setCell ?_ ?_ _ | with_reducible exact Nat.le_refl _ | (simp only [World.size_alloc]; omega) | (simp <;> omega)))⟩
end Go.Proofs.Ytlhmopndnohnhaa

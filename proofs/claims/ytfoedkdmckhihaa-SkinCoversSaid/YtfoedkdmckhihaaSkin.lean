/- What Skin returns. -/
import Derived.Test.YtfoedkdmckhihaaSkinKit
import Derived.Deep.RegionHeld
namespace Go.Proofs.Ytfoedkdmckhihaa
set_option linter.unusedSimpArgs false
set_option linter.unusedVariables false
open Go.RowKit Runs Reg
attribute [local go_sem] Kin.cell Kin.frozen Kin.lt0 Kin.lt1 Kin.lt2 Kin.lt3 run_mkf
theorem results_cells2 {P : Program} {fn : Func} {p q : Tmp} {ty : TypeId} (h : fn.results = #[.cell p ty, .cell q ty]) (tmps : Array Value) (w : World) {g g' : Nat} {t t' : TypeId} {cs cs' : Array Value} (fr fr' : Nat × Nat) {d : TypeDesc}
    (hp : tmps.getD p undef = .pointer (some ⟨g, 0, none⟩)) (hg : w.heap[g]? = some (.cells cs t fr)) (hq : tmps.getD q undef = .pointer (some ⟨g', 0, none⟩)) (hg' : w.heap[g']? = some (.cells cs' t' fr'))
    (hu : P.underlying ty = some d) (hd : (match d with | .struct _ | .array _ _ => true | _ => false) = true) (hi : (P.info? ty).map (·.size) = some cs.size) (hi' : cs'.size = cs.size := by rfl) :
    (results fn tmps).run P w = .ok (.tuple #[.agg cs, .agg cs']) w := by
  have hp' : tmps[p]?.getD undef = .pointer (some ⟨g, 0, none⟩) := by simpa using hp
  have hq' : tmps[q]?.getD undef = .pointer (some ⟨g', 0, none⟩) := by simpa using hq
  simp [results, h, hp', hq', asAddr, run_loadVar_row w g t ty cs fr d hg hu hd hi, run_loadVar_row w g' t' ty cs' fr' d hg' hu hd (by rw [hi, hi'])]
theorem results_cell_t {P : Program} {fn : Func} {p q : Tmp} {ty : TypeId} (h : fn.results = #[.cell p ty, .tmp q]) (tmps : Array Value) (w : World) {g : Nat} {t : TypeId} {cs : Array Value} (fr : Nat × Nat) {d : TypeDesc}
    (hp : tmps.getD p undef = .pointer (some ⟨g, 0, none⟩)) (hg : w.heap[g]? = some (.cells cs t fr))
    (hu : P.underlying ty = some d) (hd : (match d with | .struct _ | .array _ _ => true | _ => false) = true) (hi : (P.info? ty).map (·.size) = some cs.size) :
    (results fn tmps).run P w = .ok (.tuple #[.agg cs, tmps.getD q undef]) w := by
  have hp' : tmps[p]?.getD undef = .pointer (some ⟨g, 0, none⟩) := by simpa using hp
  simp [results, h, hp', asAddr, run_loadVar_row w g t ty cs fr d hg hu hd hi]
theorem kin_alloc {w : World} {o : Obj} {x : World} (h : Below (w.heap.size + 1) (w.alloc o) x) : Below (w.alloc o).heap.size (w.alloc o) x := by rw [World.size_alloc]; exact h
theorem alloc_kin {w : World} {o : Obj} {x : World} (h : Below (w.alloc o).heap.size (w.alloc o) x) : Below (w.heap.size + 1) (w.alloc o) x := by rwa [World.size_alloc] at h
theorem blk_alloc2 (w : World) (o : Obj) (t : TypeId) (c : Array Value) : Blk ((w.alloc o).alloc (.cells c t)) (w.heap.size + 1) t c := by
  have := Blk.new (w.alloc o) t c
  rwa [World.size_alloc] at this
def spT (rs : List (List Reg.Row)) (all : List Reg.Row) (i : Int) : Nat → List Reg.Row
  | 0 => all
  | k + 1 => rop (opf 1) (spT rs all i k) (layR rs (i + 1 + k))
def spB (rs : List (List Reg.Row)) (s : List Reg.Row) (i : Int) : Nat → List Reg.Row
  | 0 => s
  | k + 1 => rop (opf 1) (spB rs s i k) (layR rs (i - 1 - k))
theorem spT_valid {rs : List (List Reg.Row)} {all : List Reg.Row} {i : Int} (h : rvalid all = true) : ∀ k, rvalid (spT rs all i k) = true
  | 0 => h
  | k + 1 => rop_valid (opf_ff 1) _ _
theorem spB_valid {rs : List (List Reg.Row)} {s : List Reg.Row} {i : Int} (h : rvalid s = true) : ∀ k, rvalid (spB rs s i k) = true
  | 0 => h
  | k + 1 => rop_valid (opf_ff 1) _ _
/-- the solid and the sparse cells -/
def skinR (rs : List (List Reg.Row)) (i top bottom : Int) : List Reg.Row × List Reg.Row :=
  if i < 0 ∨ (rs.length : Int) ≤ i then ([], [])
  else if (rs.length : Int) - 1 - i < max top 0 ∨ i < max bottom 0 then (layR rs i, [])
  else (rop (opf 0) (layR rs i) (spB rs (spT rs (layR rs i) i (max top 0).toNat) i (max bottom 0).toNat), spB rs (spT rs (layR rs i) i (max top 0).toNat) i (max bottom 0).toNat)
theorem rop_empty {a : List Reg.Row} (h : rvalid a = true) : rop (opf 2) a [] = a :=
  (rop_eq (opf_ff 2) h rvalid_nil (rvalid_iff.1 h) (fun x y => by rw [memC_nil]; simp [opf])).symm
theorem rvalid_bd {rows : List Reg.Row} (h : rvalid rows = true) : RBd rows := vreg_bd (rvalid_iff.1 h)
set_option maxRecDepth 100000 in
set_option maxHeartbeats 8000000 in
theorem skin_any (v : Value) (rs : List (List Reg.Row)) (i top bottom : Int) (w : World) (h : RdRegs w v rs) (hbd : ∀ r ∈ rs, RBd r) (hlen : rs.length ≤ 17179869184) :
    Calls Try.prog 16 #[v, .int .i64 i, .int .i64 top, .int .i64 bottom] w fun e w' => (∃ a b, e = .returned (.tuple #[a, b]) ∧ RdReg w' a (skinR rs i top bottom).1 ∧ RdReg w' b (skinR rs i top bottom).2) ∧ Below w.heap.size w w' := by
  obtain ⟨A, capA, rfl, hcapA, _⟩ := regs_open h
  have H := Lib.hid h
  have Hbd := Lib.hid hbd
  clear h hbd
  by_cases hi : i < 0 ∨ (rs.length : Int) ≤ i
  · have hr : skinR rs i top bottom = ([], []) := by unfold skinR; rw [if_pos hi]
    rw [hr]
    go_enter Try.func16, Try.ntmps16
    rcases hi with hi | hi
    · go_wp2
      have hB := Kin.boxes2 (⟨_, Below.refl _ _⟩ : Kin ((w.alloc (.cells #[.slice none 0 0] 29)).alloc (.cells #[.slice none 0 0] 29)))
      ((try simp only [Exit.inBlock, Exit.then]); refine bodyPost_ret (results_cells2 rfl _ _ (0, 0) (0, 0) rfl (hB.1) rfl (hB.2) Try.underlying29 rfl (by kernel_rfl)) rfl ?_)
      exact ⟨⟨_, _, rfl, RdReg.nil, RdReg.nil⟩, (by repeat (first | with_reducible exact Below.refl _ _ | with_reducible exact Nat.le_refl _ | with_reducible refine Kin.below _ ?_ | with_reducible refine Below.alloc ?_ ?_ _ | with_reducible refine Below.drew ?_ | with_reducible refine Kin.le _ ?_ | with_reducible refine le_alloc ?_ _ | with_reducible refine le_drew ?_ | with_reducible refine Below.setCell ?_ ?_ _ | with_reducible exact Nat.le_refl _ | (simp only [World.size_alloc]; omega) | (simp <;> omega)))⟩
    · go_wp2
      have hB := Kin.boxes2 (⟨_, Below.refl _ _⟩ : Kin ((w.alloc (.cells #[.slice none 0 0] 29)).alloc (.cells #[.slice none 0 0] 29)))
      ((try simp only [Exit.inBlock, Exit.then]); refine bodyPost_ret (results_cells2 rfl _ _ (0, 0) (0, 0) rfl (hB.1) rfl (hB.2) Try.underlying29 rfl (by kernel_rfl)) rfl ?_)
      exact ⟨⟨_, _, rfl, RdReg.nil, RdReg.nil⟩, (by repeat (first | with_reducible exact Below.refl _ _ | with_reducible exact Nat.le_refl _ | with_reducible refine Kin.below _ ?_ | with_reducible refine Below.alloc ?_ ?_ _ | with_reducible refine Below.drew ?_ | with_reducible refine Kin.le _ ?_ | with_reducible refine le_alloc ?_ _ | with_reducible refine le_drew ?_ | with_reducible refine Below.setCell ?_ ?_ _ | with_reducible exact Nat.le_refl _ | (simp only [World.size_alloc]; omega) | (simp <;> omega)))⟩
  · obtain ⟨u, hu, hru⟩ := layIs_some H.out i
    have HU := Lib.hid hu
    have HRU := Lib.hid hru
    clear hu
    obtain ⟨U, capU, rfl⟩ := hru.slice_
    clear hru
    have hlv := layR_valid rs i
    have hi1 : 0 ≤ i := by omega
    have hi2 : i < (rs.length : Int) := by omega
    obtain ⟨T, hT⟩ : ∃ T : Nat, max top 0 = (T : Int) := ⟨(max top 0).toNat, by omega⟩
    obtain ⟨B, hBo⟩ : ∃ B : Nat, max bottom 0 = (B : Int) := ⟨(max bottom 0).toNat, by omega⟩
    have hsk : skinR rs i top bottom = if (rs.length : Int) - 1 - i < (T : Int) ∨ i < (B : Int) then (layR rs i, []) else (rop (opf 0) (layR rs i) (spB rs (spT rs (layR rs i) i T) i B), spB rs (spT rs (layR rs i) i T) i B) := by
      unfold skinR; rw [if_neg hi, hT, hBo]; simp only [Int.toNat_natCast]
    have HSK := Lib.hid hsk
    clear hsk
    go_enter Try.func16, Try.ntmps16
    go_wp2_with (first
      | (go_at_call 37; go_loud ((with_reducible refine (Kin.callK (W := (w.alloc (.cells #[.slice none 0 0] 29)).alloc (.cells #[.slice none 0 0] 29)) (by repeat (first | with_reducible exact Below.refl _ _ | with_reducible exact Nat.le_refl _ | with_reducible refine Kin.below _ ?_ | with_reducible refine Below.alloc ?_ ?_ _ | with_reducible refine Below.drew ?_ | with_reducible refine Kin.le _ ?_ | with_reducible refine le_alloc ?_ _ | with_reducible refine le_drew ?_ | with_reducible refine Below.setCell ?_ ?_ _ | with_reducible exact Nat.le_refl _ | (simp only [World.size_alloc]; omega) | (simp <;> omega))) (layer_any _ rs i _ _ Hbd.out hlen (HU.out.below (by repeat (first | with_reducible exact Below.refl _ _ | with_reducible exact Nat.le_refl _ | with_reducible refine Kin.below _ ?_ | with_reducible refine Below.alloc ?_ ?_ _ | with_reducible refine Below.drew ?_ | with_reducible refine Kin.le _ ?_ | with_reducible refine le_alloc ?_ _ | with_reducible refine le_drew ?_ | with_reducible refine Below.setCell ?_ ?_ _ | with_reducible exact Nat.le_refl _ | (simp only [World.size_alloc]; omega) | (simp <;> omega)))))).mono ?_); rintro e w' ⟨z, rfl, hz, rfl⟩))
      | (go_at_call 26; go_loud ((with_reducible refine (Kin.callK (W := (w.alloc (.cells #[.slice none 0 0] 29)).alloc (.cells #[.slice none 0 0] 29)) (by repeat (first | with_reducible exact Below.refl _ _ | with_reducible exact Nat.le_refl _ | with_reducible refine Kin.below _ ?_ | with_reducible refine Below.alloc ?_ ?_ _ | with_reducible refine Below.drew ?_ | with_reducible refine Kin.le _ ?_ | with_reducible refine le_alloc ?_ _ | with_reducible refine le_drew ?_ | with_reducible refine Below.setCell ?_ ?_ _ | with_reducible exact Nat.le_refl _ | (simp only [World.size_alloc]; omega) | (simp <;> omega))) (unionReg_any _ _ (layR rs i) [] _ (HRU.out.below (by repeat (first | with_reducible exact Below.refl _ _ | with_reducible exact Nat.le_refl _ | with_reducible refine Kin.below _ ?_ | with_reducible refine Below.alloc ?_ ?_ _ | with_reducible refine Below.drew ?_ | with_reducible refine Kin.le _ ?_ | with_reducible refine le_alloc ?_ _ | with_reducible refine le_drew ?_ | with_reducible refine Below.setCell ?_ ?_ _ | with_reducible exact Nat.le_refl _ | (simp only [World.size_alloc]; omega) | (simp <;> omega)))) RdReg.nil (rvalid_bd hlv) (rvalid_bd rvalid_nil))).mono ?_); rintro e w' ⟨z, ⟨al, rfl, hal⟩, hz, rfl⟩; (rw [rop_empty hlv] at hal; (obtain ⟨L, capL, rfl⟩ := hal.slice_); have HAL := Lib.hid hal; have HB1 := Lib.hid z.boxes2.1; have HB2 := Lib.hid z.boxes2.2; have q0 : (Kin.wd z).cell? ⟨w.heap.size, 0, none⟩ = some (.slice none 0 0) := HB1.out.cell 0; have qf0 : (Kin.wd z).frozen? ⟨w.heap.size, 0, none⟩ = false := HB1.out.frozen 0; have ql0 := HB1.out.lt; have q1 : (Kin.wd z).cell? ⟨w.heap.size + 1, 0, none⟩ = some (.slice none 0 0) := HB2.out.cell 0; have qf1 : (Kin.wd z).frozen? ⟨w.heap.size + 1, 0, none⟩ = false := HB2.out.frozen 0; have ql1 := HB2.out.lt; clear hal))))
    · rw [HSK.out, if_pos (by omega)]
      have f1 := HB1.out.set_ 0 (.slice L (layR rs i).length capL)
      have f2 := HB2.out.far (p := ⟨w.heap.size, 0, none⟩) (by simp) (.slice L (layR rs i).length capL)
      have g1 := f1.far (p := ⟨w.heap.size + 1, 0, none⟩) (by simp) (.slice none 0 0)
      have g2 := f2.set_ 0 (.slice none 0 0)
      have hr1 := (HAL.out.set_ (i := 0) (u := (.slice L (layR rs i).length capL)) HB1.out).set_ (i := 0) (u := .slice none 0 0) f2
      ((try simp only [Exit.inBlock, Exit.then]); refine bodyPost_ret (results_cells2 rfl _ _ (0, 0) (0, 0) rfl (g1.below (Below.alloc (Below.refl _ _) (Nat.le_refl _) _)) rfl (g2.below (Below.alloc (Below.refl _ _) (Nat.le_refl _) _)) Try.underlying29 rfl (by kernel_rfl)) rfl ?_)
      exact ⟨⟨_, _, rfl, hr1.below (Below.alloc (Below.refl _ _) (Nat.le_refl _) _), RdReg.nil⟩, (by repeat (first | with_reducible exact Below.refl _ _ | with_reducible exact Nat.le_refl _ | with_reducible refine Kin.below _ ?_ | with_reducible refine Below.alloc ?_ ?_ _ | with_reducible refine Below.drew ?_ | with_reducible refine Kin.le _ ?_ | with_reducible refine le_alloc ?_ _ | with_reducible refine le_drew ?_ | with_reducible refine Below.setCell ?_ ?_ _ | with_reducible exact Nat.le_refl _ | (simp only [World.size_alloc]; omega) | (simp <;> omega)))⟩
    · have hTn : (T : Int) ≤ (rs.length : Int) - 1 - i := by omega
      have hBn : (B : Int) ≤ i := by omega
      go_loopw [49] (fun j wr => ∃ k : Nat, k ≤ T ∧ j = .int .i64 k ∧ ∃ (S : Option Addr) (n c : Nat), Hid (Blk wr (z.1.heap.size + 1) 29 #[.slice S n c]) ∧ Hid (RdReg wr (.agg #[.slice S n c]) (spT rs (layR rs i) i k)) ∧ Hid (Below (z.1.heap.size + 1) (z.1.alloc (.cells #[.slice L (layR rs i).length capL] 29)) wr)) (fun j _ => T - (intOf j).toNat)
      case atStart => exact ⟨0, Nat.zero_le _, rfl, L, _, capL, Lib.hid (blk_alloc2 _ _ _ _), Lib.hid (HAL.out.below (by repeat (first | with_reducible exact Below.refl _ _ | with_reducible exact Nat.le_refl _ | with_reducible refine Kin.below _ ?_ | with_reducible refine Below.alloc ?_ ?_ _ | with_reducible refine Below.drew ?_ | with_reducible refine Kin.le _ ?_ | with_reducible refine le_alloc ?_ _ | with_reducible refine le_drew ?_ | with_reducible refine Below.setCell ?_ ?_ _ | with_reducible exact Nat.le_refl _ | (simp only [World.size_alloc]; omega) | (simp <;> omega)))), Lib.hid (alloc_kin (Below.alloc (Below.refl _ _) (Nat.le_refl _) _))⟩
      case round =>
        obtain ⟨k, hk, rfl, S, n, c, HP, HS, hyB⟩ := hrel
        have hpl := HP.out.lt
        have hyX : Below (z.1.alloc (.cells #[.slice L (layR rs i).length capL] 29)).heap.size (z.1.alloc (.cells #[.slice L (layR rs i).length capL] 29)) wr := kin_alloc hyB.out
        obtain ⟨y, rfl⟩ : ∃ y : Kin (z.1.alloc (.cells #[.slice L (layR rs i).length capL] 29)), y.1 = wr := ⟨⟨wr, hyX⟩, rfl⟩
        clear hyB hyX
        have p0 : y.1.cell? ⟨z.1.heap.size + 1, 0, none⟩ = some (.slice S n c) := HP.out.cell 0
        by_cases hlt : k < T
        · obtain ⟨u2, hu2, hru2⟩ := layIs_some (H.out.below (show Below w.heap.size w y.1 from (by repeat (first | with_reducible exact Below.refl _ _ | with_reducible exact Nat.le_refl _ | with_reducible refine Kin.below _ ?_ | with_reducible refine Below.alloc ?_ ?_ _ | with_reducible refine Below.drew ?_ | with_reducible refine Kin.le _ ?_ | with_reducible refine le_alloc ?_ _ | with_reducible refine le_drew ?_ | with_reducible refine Below.setCell ?_ ?_ _ | with_reducible exact Nat.le_refl _ | (simp only [World.size_alloc]; omega) | (simp <;> omega))))) (i + 1 + (k : Int))
          have HU2 := Lib.hid hu2
          have HRU2 := Lib.hid hru2
          obtain ⟨U2, capU2, rfl⟩ := hru2.slice_
          clear hu2 hru2
          have hv2 := layR_valid rs (i + 1 + (k : Int))
          have hw1 : IntKind.i64.wrap (i + 1) = i + 1 := IntWalk.i64_in _ (by omega)
          have hw2 : IntKind.i64.wrap (i + 1 + (k : Int)) = i + 1 + (k : Int) := IntWalk.i64_in _ (by omega)
          go_wp2
          ((refine wp_region_tailK (W := (Kin.wd y)) 7 (by kernel_rfl) (by kernel_rfl) (by repeat (first | with_reducible exact Below.refl _ _ | with_reducible exact Nat.le_refl _ | with_reducible refine Kin.below _ ?_ | with_reducible refine Below.alloc ?_ ?_ _ | with_reducible refine Below.drew ?_ | with_reducible refine Kin.le _ ?_ | with_reducible refine le_alloc ?_ _ | with_reducible refine le_drew ?_ | with_reducible refine Below.setCell ?_ ?_ _ | with_reducible exact Nat.le_refl _ | (simp only [World.size_alloc]; omega) | (simp <;> omega))) ?_); simp only [List.take_succ_cons, List.take_zero, List.drop_succ_cons, List.drop_zero]; (repeat' (first | go_big_quiet_step ((go_at_call 37; exact Kin.quiet _ (layer_any _ rs (i + 1 + (k : Int)) _ _ Hbd.out hlen (HU2.out.below (by repeat (first | with_reducible exact Below.refl _ _ | with_reducible exact Nat.le_refl _ | with_reducible refine Kin.below _ ?_ | with_reducible refine Below.alloc ?_ ?_ _ | with_reducible refine Below.drew ?_ | with_reducible refine Kin.le _ ?_ | with_reducible refine le_alloc ?_ _ | with_reducible refine le_drew ?_ | with_reducible refine Below.setCell ?_ ?_ _ | with_reducible exact Nat.le_refl _ | (simp only [World.size_alloc]; omega) | (simp <;> omega))))))) | ((refine wpQuiet_guard rfl rfl rfl rfl (fun hg => ?_) (fun hg => ?_)) <;> (fail_if_success (first | guard_hyp hg : true = true | guard_hyp hg : false = false)) <;> (try simp only [decide_eq_true_eq, decide_eq_false_iff_not] at hg) <;> simp only [Act.put, List.setIfInBounds_toArray, List.set_cons_zero, List.set_cons_succ]))); all_goals ((with_reducible refine wpQuiet_nil ?_); intro zq hz))
          go_wp2_with (go_at_call 27; go_loud ((with_reducible refine (Kin.callK (W := (Kin.wd y)) (by repeat (first | with_reducible exact Below.refl _ _ | with_reducible exact Nat.le_refl _ | with_reducible refine Kin.below _ ?_ | with_reducible refine Below.alloc ?_ ?_ _ | with_reducible refine Below.drew ?_ | with_reducible refine Kin.le _ ?_ | with_reducible refine le_alloc ?_ _ | with_reducible refine le_drew ?_ | with_reducible refine Below.setCell ?_ ?_ _ | with_reducible exact Nat.le_refl _ | (simp only [World.size_alloc]; omega) | (simp <;> omega))) (intersectReg_any _ _ (spT rs (layR rs i) i k) (layR rs (i + 1 + (k : Int))) _ (HS.out.below (by repeat (first | with_reducible exact Below.refl _ _ | with_reducible exact Nat.le_refl _ | with_reducible refine Kin.below _ ?_ | with_reducible refine Below.alloc ?_ ?_ _ | with_reducible refine Below.drew ?_ | with_reducible refine Kin.le _ ?_ | with_reducible refine le_alloc ?_ _ | with_reducible refine le_drew ?_ | with_reducible refine Below.setCell ?_ ?_ _ | with_reducible exact Nat.le_refl _ | (simp only [World.size_alloc]; omega) | (simp <;> omega)))) (HRU2.out.below (by repeat (first | with_reducible exact Below.refl _ _ | with_reducible exact Nat.le_refl _ | with_reducible refine Kin.below _ ?_ | with_reducible refine Below.alloc ?_ ?_ _ | with_reducible refine Below.drew ?_ | with_reducible refine Kin.le _ ?_ | with_reducible refine le_alloc ?_ _ | with_reducible refine le_drew ?_ | with_reducible refine Below.setCell ?_ ?_ _ | with_reducible exact Nat.le_refl _ | (simp only [World.size_alloc]; omega) | (simp <;> omega)))) (rvalid_bd (spT_valid hlv k)) (rvalid_bd hv2))).mono ?_); rintro e w' ⟨zi, ⟨rv, rfl, hrv⟩, hzi, rfl⟩; ((obtain ⟨R, capR, rfl⟩ := hrv.slice_); have HRV := Lib.hid hrv; have HP2 := Lib.hid (HP.out.below zi.2); have p1 : (Kin.wd zi).cell? ⟨(Kin.wd z).heap.size + 1, 0, none⟩ = some (.slice S n c) := HP2.out.cell 0; have pf1 : (Kin.wd zi).frozen? ⟨(Kin.wd z).heap.size + 1, 0, none⟩ = false := HP2.out.frozen 0; have pl1 := HP2.out.lt; clear hrv)))
          go_roundw
          case rel => exact ⟨k + 1, by omega, by go_num, _, _, _, Lib.hid (HP2.out.set_ 0 _), Lib.hid (HRV.out.set_ HP2.out), Lib.hid (Below.setCell (alloc_kin (y.2.trans (zi.2.mono y.2.size))) (Nat.le_refl _) _)⟩
          case measure => simp [intOf]; omega
        · have ek : k = T := by omega
          rw [ek] at HS
          clear ek
          go_wp2
          go_loopw [62] (fun j wr => ∃ k : Nat, k ≤ B ∧ j = .int .i64 k ∧ ∃ (S : Option Addr) (n c : Nat), Hid (Blk wr (z.1.heap.size + 1) 29 #[.slice S n c]) ∧ Hid (RdReg wr (.agg #[.slice S n c]) (spB rs (spT rs (layR rs i) i T) i k)) ∧ Hid (Below (z.1.heap.size + 1) (z.1.alloc (.cells #[.slice L (layR rs i).length capL] 29)) wr)) (fun j _ => B - (intOf j).toNat)
          case atStart => exact ⟨0, Nat.zero_le _, rfl, S, n, c, HP, HS, Lib.hid (alloc_kin y.2)⟩
          case round =>
            clear HP HS p0 hpl
            obtain ⟨k, hk, rfl, S, n, c, HP, HS, hyB⟩ := hrel
            have hpl := HP.out.lt
            have hyX : Below (z.1.alloc (.cells #[.slice L (layR rs i).length capL] 29)).heap.size (z.1.alloc (.cells #[.slice L (layR rs i).length capL] 29)) wr := kin_alloc hyB.out
            obtain ⟨y, rfl⟩ : ∃ y : Kin (z.1.alloc (.cells #[.slice L (layR rs i).length capL] 29)), y.1 = wr := ⟨⟨wr, hyX⟩, rfl⟩
            clear hyB hyX
            have p0 : y.1.cell? ⟨z.1.heap.size + 1, 0, none⟩ = some (.slice S n c) := HP.out.cell 0
            by_cases hlt : k < B
            · obtain ⟨u2, hu2, hru2⟩ := layIs_some (H.out.below (show Below w.heap.size w y.1 from (by repeat (first | with_reducible exact Below.refl _ _ | with_reducible exact Nat.le_refl _ | with_reducible refine Kin.below _ ?_ | with_reducible refine Below.alloc ?_ ?_ _ | with_reducible refine Below.drew ?_ | with_reducible refine Kin.le _ ?_ | with_reducible refine le_alloc ?_ _ | with_reducible refine le_drew ?_ | with_reducible refine Below.setCell ?_ ?_ _ | with_reducible exact Nat.le_refl _ | (simp only [World.size_alloc]; omega) | (simp <;> omega))))) (i - 1 - (k : Int))
              have HU2 := Lib.hid hu2
              have HRU2 := Lib.hid hru2
              obtain ⟨U2, capU2, rfl⟩ := hru2.slice_
              clear hu2 hru2
              have hv2 := layR_valid rs (i - 1 - (k : Int))
              have hw1 : IntKind.i64.wrap (i - 1) = i - 1 := IntWalk.i64_in _ (by omega)
              have hw2 : IntKind.i64.wrap (i - 1 - (k : Int)) = i - 1 - (k : Int) := IntWalk.i64_in _ (by omega)
              go_wp2
              ((refine wp_region_tailK (W := (Kin.wd y)) 7 (by kernel_rfl) (by kernel_rfl) (by repeat (first | with_reducible exact Below.refl _ _ | with_reducible exact Nat.le_refl _ | with_reducible refine Kin.below _ ?_ | with_reducible refine Below.alloc ?_ ?_ _ | with_reducible refine Below.drew ?_ | with_reducible refine Kin.le _ ?_ | with_reducible refine le_alloc ?_ _ | with_reducible refine le_drew ?_ | with_reducible refine Below.setCell ?_ ?_ _ | with_reducible exact Nat.le_refl _ | (simp only [World.size_alloc]; omega) | (simp <;> omega))) ?_); simp only [List.take_succ_cons, List.take_zero, List.drop_succ_cons, List.drop_zero]; (repeat' (first | go_big_quiet_step ((go_at_call 37; exact Kin.quiet _ (layer_any _ rs (i - 1 - (k : Int)) _ _ Hbd.out hlen (HU2.out.below (by repeat (first | with_reducible exact Below.refl _ _ | with_reducible exact Nat.le_refl _ | with_reducible refine Kin.below _ ?_ | with_reducible refine Below.alloc ?_ ?_ _ | with_reducible refine Below.drew ?_ | with_reducible refine Kin.le _ ?_ | with_reducible refine le_alloc ?_ _ | with_reducible refine le_drew ?_ | with_reducible refine Below.setCell ?_ ?_ _ | with_reducible exact Nat.le_refl _ | (simp only [World.size_alloc]; omega) | (simp <;> omega))))))) | ((refine wpQuiet_guard rfl rfl rfl rfl (fun hg => ?_) (fun hg => ?_)) <;> (fail_if_success (first | guard_hyp hg : true = true | guard_hyp hg : false = false)) <;> (try simp only [decide_eq_true_eq, decide_eq_false_iff_not] at hg) <;> simp only [Act.put, List.setIfInBounds_toArray, List.set_cons_zero, List.set_cons_succ]))); all_goals ((with_reducible refine wpQuiet_nil ?_); intro zq hz))
              go_wp2_with (go_at_call 27; go_loud ((with_reducible refine (Kin.callK (W := (Kin.wd y)) (by repeat (first | with_reducible exact Below.refl _ _ | with_reducible exact Nat.le_refl _ | with_reducible refine Kin.below _ ?_ | with_reducible refine Below.alloc ?_ ?_ _ | with_reducible refine Below.drew ?_ | with_reducible refine Kin.le _ ?_ | with_reducible refine le_alloc ?_ _ | with_reducible refine le_drew ?_ | with_reducible refine Below.setCell ?_ ?_ _ | with_reducible exact Nat.le_refl _ | (simp only [World.size_alloc]; omega) | (simp <;> omega))) (intersectReg_any _ _ (spB rs (spT rs (layR rs i) i T) i k) (layR rs (i - 1 - (k : Int))) _ (HS.out.below (by repeat (first | with_reducible exact Below.refl _ _ | with_reducible exact Nat.le_refl _ | with_reducible refine Kin.below _ ?_ | with_reducible refine Below.alloc ?_ ?_ _ | with_reducible refine Below.drew ?_ | with_reducible refine Kin.le _ ?_ | with_reducible refine le_alloc ?_ _ | with_reducible refine le_drew ?_ | with_reducible refine Below.setCell ?_ ?_ _ | with_reducible exact Nat.le_refl _ | (simp only [World.size_alloc]; omega) | (simp <;> omega)))) (HRU2.out.below (by repeat (first | with_reducible exact Below.refl _ _ | with_reducible exact Nat.le_refl _ | with_reducible refine Kin.below _ ?_ | with_reducible refine Below.alloc ?_ ?_ _ | with_reducible refine Below.drew ?_ | with_reducible refine Kin.le _ ?_ | with_reducible refine le_alloc ?_ _ | with_reducible refine le_drew ?_ | with_reducible refine Below.setCell ?_ ?_ _ | with_reducible exact Nat.le_refl _ | (simp only [World.size_alloc]; omega) | (simp <;> omega)))) (rvalid_bd (spB_valid (spT_valid hlv T) k)) (rvalid_bd hv2))).mono ?_); rintro e w' ⟨zi, ⟨rv, rfl, hrv⟩, hzi, rfl⟩; ((obtain ⟨R, capR, rfl⟩ := hrv.slice_); have HRV := Lib.hid hrv; have HP2 := Lib.hid (HP.out.below zi.2); have p1 : (Kin.wd zi).cell? ⟨(Kin.wd z).heap.size + 1, 0, none⟩ = some (.slice S n c) := HP2.out.cell 0; have pf1 : (Kin.wd zi).frozen? ⟨(Kin.wd z).heap.size + 1, 0, none⟩ = false := HP2.out.frozen 0; have pl1 := HP2.out.lt; clear hrv)))
              go_roundw
              case rel => exact ⟨k + 1, by omega, by go_num, _, _, _, Lib.hid (HP2.out.set_ 0 _), Lib.hid (HRV.out.set_ HP2.out), Lib.hid (Below.setCell (alloc_kin (y.2.trans (zi.2.mono y.2.size))) (Nat.le_refl _) _)⟩
              case measure => simp [intOf]; omega
            · have ek : k = B := by omega
              rw [ek] at HS
              clear ek
              have hsk := HSK.out
              rw [if_neg (by omega)] at hsk
              have HSK2 := Lib.hid hsk
              clear hsk
              have HB1y := Lib.hid (HB1.out.below (show Below z.1.heap.size z.1 y.1 from (by repeat (first | with_reducible exact Below.refl _ _ | with_reducible exact Nat.le_refl _ | with_reducible refine Kin.below _ ?_ | with_reducible refine Below.alloc ?_ ?_ _ | with_reducible refine Below.drew ?_ | with_reducible refine Kin.le _ ?_ | with_reducible refine le_alloc ?_ _ | with_reducible refine le_drew ?_ | with_reducible refine Below.setCell ?_ ?_ _ | with_reducible exact Nat.le_refl _ | (simp only [World.size_alloc]; omega) | (simp <;> omega)))))
              have HB2y := Lib.hid (HB2.out.below (show Below z.1.heap.size z.1 y.1 from (by repeat (first | with_reducible exact Below.refl _ _ | with_reducible exact Nat.le_refl _ | with_reducible refine Kin.below _ ?_ | with_reducible refine Below.alloc ?_ ?_ _ | with_reducible refine Below.drew ?_ | with_reducible refine Kin.le _ ?_ | with_reducible refine le_alloc ?_ _ | with_reducible refine le_drew ?_ | with_reducible refine Below.setCell ?_ ?_ _ | with_reducible exact Nat.le_refl _ | (simp only [World.size_alloc]; omega) | (simp <;> omega)))))
              have HALy := Lib.hid (HAL.out.below (show Below z.1.heap.size z.1 y.1 from (by repeat (first | with_reducible exact Below.refl _ _ | with_reducible exact Nat.le_refl _ | with_reducible refine Kin.below _ ?_ | with_reducible refine Below.alloc ?_ ?_ _ | with_reducible refine Below.drew ?_ | with_reducible refine Kin.le _ ?_ | with_reducible refine le_alloc ?_ _ | with_reducible refine le_drew ?_ | with_reducible refine Below.setCell ?_ ?_ _ | with_reducible exact Nat.le_refl _ | (simp only [World.size_alloc]; omega) | (simp <;> omega)))))
              have r0 : y.1.cell? ⟨z.1.heap.size, 0, none⟩ = some (.slice L (layR rs i).length capL) := (y.cell (by simp)).trans (by simp)
              have rl := y.lt0 (show z.1.heap.size < (z.1.alloc (.cells #[.slice L (layR rs i).length capL] 29)).heap.size by simp)
              have s0 : y.1.cell? ⟨w.heap.size, 0, none⟩ = some (.slice none 0 0) := HB1y.out.cell 0
              have sf0 : y.1.frozen? ⟨w.heap.size, 0, none⟩ = false := HB1y.out.frozen 0
              have sl0 := HB1y.out.lt
              have s1 : y.1.cell? ⟨w.heap.size + 1, 0, none⟩ = some (.slice none 0 0) := HB2y.out.cell 0
              have sf1 : y.1.frozen? ⟨w.heap.size + 1, 0, none⟩ = false := HB2y.out.frozen 0
              have sl1 := HB2y.out.lt
              have hn1 : ¬ w.heap.size = z.1.heap.size := by omega
              have hn2 : ¬ w.heap.size = z.1.heap.size + 1 := by omega
              have hn3 : ¬ w.heap.size + 1 = z.1.heap.size := by omega
              have hn4 : ¬ w.heap.size + 1 = z.1.heap.size + 1 := by omega
              have hvB := spB_valid (rs := rs) (i := i) (spT_valid (rs := rs) (i := i) hlv T) B
              go_wp2
              go_region_held (fun w' => w'.cell? ⟨z.1.heap.size, 0, none⟩ = some (.slice L (layR rs i).length capL) ∧ w'.cell? ⟨z.1.heap.size + 1, 0, none⟩ = some (.slice S n c)) (first | exact ⟨by assumption, by assumption⟩ | simp [*, World.cell?_alloc_some, World.cell?_setCell_far]) ((go_at_call 38; go_loud ((with_reducible refine (Kin.callK (W := (Kin.wd y)) (by repeat (first | with_reducible exact Below.refl _ _ | with_reducible exact Nat.le_refl _ | with_reducible refine Kin.below _ ?_ | with_reducible refine Below.alloc ?_ ?_ _ | with_reducible refine Below.drew ?_ | with_reducible refine Kin.le _ ?_ | with_reducible refine le_alloc ?_ _ | with_reducible refine le_drew ?_ | with_reducible refine Below.setCell ?_ ?_ _ | with_reducible exact Nat.le_refl _ | (simp only [World.size_alloc]; omega) | (simp <;> omega))) (subtractReg_any _ _ (layR rs i) (spB rs (spT rs (layR rs i) i T) i B) _ (HALy.out.below (by repeat (first | with_reducible exact Below.refl _ _ | with_reducible exact Nat.le_refl _ | with_reducible refine Kin.below _ ?_ | with_reducible refine Below.alloc ?_ ?_ _ | with_reducible refine Below.drew ?_ | with_reducible refine Kin.le _ ?_ | with_reducible refine le_alloc ?_ _ | with_reducible refine le_drew ?_ | with_reducible refine Below.setCell ?_ ?_ _ | with_reducible exact Nat.le_refl _ | (simp only [World.size_alloc]; omega) | (simp <;> omega)))) (HS.out.below (by repeat (first | with_reducible exact Below.refl _ _ | with_reducible exact Nat.le_refl _ | with_reducible refine Kin.below _ ?_ | with_reducible refine Below.alloc ?_ ?_ _ | with_reducible refine Below.drew ?_ | with_reducible refine Kin.le _ ?_ | with_reducible refine le_alloc ?_ _ | with_reducible refine le_drew ?_ | with_reducible refine Below.setCell ?_ ?_ _ | with_reducible exact Nat.le_refl _ | (simp only [World.size_alloc]; omega) | (simp <;> omega)))) (rvalid_bd hlv) (rvalid_bd hvB))).mono ?_); rintro e w' ⟨zs, ⟨rv, rfl, hrv⟩, hzs, rfl⟩; ((obtain ⟨R, capR, rfl⟩ := hrv.slice_); have HRV := Lib.hid hrv; have HD1 := Lib.hid (HB1y.out.below zs.2); have HD2 := Lib.hid (HB2y.out.below zs.2); have HSz := Lib.hid (HS.out.below zs.2); have k0 : (Kin.wd zs).cell? ⟨(Kin.wd z).heap.size, 0, none⟩ = some (.slice L (layR rs i).length capL) := (zs.cell rl).trans r0; have k1 : (Kin.wd zs).cell? ⟨(Kin.wd z).heap.size + 1, 0, none⟩ = some (.slice S n c) := (zs.cell hpl).trans p0; have t0 : (Kin.wd zs).cell? ⟨w.heap.size, 0, none⟩ = some (.slice none 0 0) := HD1.out.cell 0; have tf0 : (Kin.wd zs).frozen? ⟨w.heap.size, 0, none⟩ = false := HD1.out.frozen 0; have tl0 := HD1.out.lt; have t1 : (Kin.wd zs).cell? ⟨w.heap.size + 1, 0, none⟩ = some (.slice none 0 0) := HD2.out.cell 0; have tf1 : (Kin.wd zs).frozen? ⟨w.heap.size + 1, 0, none⟩ = false := HD2.out.frozen 0; have tl1 := HD2.out.lt; clear hrv))))
              go_wp2
              have f1 := HD1.out.set_ 0 (.slice R (rop (opf 0) (layR rs i) (spB rs (spT rs (layR rs i) i T) i B)).length capR)
              have f2 := HD2.out.far (p := ⟨w.heap.size, 0, none⟩) (by simp) (.slice R (rop (opf 0) (layR rs i) (spB rs (spT rs (layR rs i) i T) i B)).length capR)
              have g1 := f1.far (p := ⟨w.heap.size + 1, 0, none⟩) (by simp) (.slice S n c)
              have g2 := f2.set_ 0 (.slice S n c)
              have hr1 := (HRV.out.set_ (i := 0) (u := .slice R (rop (opf 0) (layR rs i) (spB rs (spT rs (layR rs i) i T) i B)).length capR) HD1.out).set_ (i := 0) (u := .slice S n c) f2
              have hr2 := (HSz.out.set_ (i := 0) (u := .slice R (rop (opf 0) (layR rs i) (spB rs (spT rs (layR rs i) i T) i B)).length capR) HD1.out).set_ (i := 0) (u := .slice S n c) f2
              ((try simp only [Exit.inBlock, Exit.then]); refine bodyPost_ret (results_cells2 rfl _ _ (0, 0) (0, 0) rfl (g1) rfl (g2) Try.underlying29 rfl (by kernel_rfl)) rfl ?_)
              rw [HSK2.out]
              exact ⟨⟨_, _, rfl, hr1, hr2⟩, (by repeat (first | with_reducible exact Below.refl _ _ | with_reducible exact Nat.le_refl _ | with_reducible refine Kin.below _ ?_ | with_reducible refine Below.alloc ?_ ?_ _ | with_reducible refine Below.drew ?_ | with_reducible refine Kin.le _ ?_ | with_reducible refine le_alloc ?_ _ | with_reducible refine le_drew ?_ | with_reducible refine Below.setCell ?_ ?_ _ | with_reducible exact Nat.le_refl _ | (simp only [World.size_alloc]; omega) | (simp <;> omega)))⟩
    · rw [HSK.out, if_pos (by omega)]
      have f1 := HB1.out.set_ 0 (.slice L (layR rs i).length capL)
      have f2 := HB2.out.far (p := ⟨w.heap.size, 0, none⟩) (by simp) (.slice L (layR rs i).length capL)
      have g1 := f1.far (p := ⟨w.heap.size + 1, 0, none⟩) (by simp) (.slice none 0 0)
      have g2 := f2.set_ 0 (.slice none 0 0)
      have hr1 := (HAL.out.set_ (i := 0) (u := (.slice L (layR rs i).length capL)) HB1.out).set_ (i := 0) (u := .slice none 0 0) f2
      ((try simp only [Exit.inBlock, Exit.then]); refine bodyPost_ret (results_cells2 rfl _ _ (0, 0) (0, 0) rfl (g1.below (Below.alloc (Below.refl _ _) (Nat.le_refl _) _)) rfl (g2.below (Below.alloc (Below.refl _ _) (Nat.le_refl _) _)) Try.underlying29 rfl (by kernel_rfl)) rfl ?_)
      exact ⟨⟨_, _, rfl, hr1.below (Below.alloc (Below.refl _ _) (Nat.le_refl _) _), RdReg.nil⟩, (by repeat (first | with_reducible exact Below.refl _ _ | with_reducible exact Nat.le_refl _ | with_reducible refine Kin.below _ ?_ | with_reducible refine Below.alloc ?_ ?_ _ | with_reducible refine Below.drew ?_ | with_reducible refine Kin.le _ ?_ | with_reducible refine le_alloc ?_ _ | with_reducible refine le_drew ?_ | with_reducible refine Below.setCell ?_ ?_ _ | with_reducible exact Nat.le_refl _ | (simp only [World.size_alloc]; omega) | (simp <;> omega)))⟩
end Go.Proofs.Ytfoedkdmckhihaa

/- SkinMore: with more layers no solid cell becomes sparse: for every input the law returns true. No condition. -/
import Derived.Test.YtfoedkdmckhihaaSkinLawD
namespace Go.Proofs.Ytfoedkdmckhihaa
set_option linter.unusedSimpArgs false
set_option linter.unusedVariables false
open Go.ChangeShapes Go.WideShapes Go.ChangeAt Go.RowKit Go.Joins Runs Reg
attribute [local go_sem] Kin.cell Kin.frozen Kin.lt0 Kin.lt1 Kin.lt2 Kin.lt3 run_mkf
theorem subtractReg_two (v u : Value) (a b : List Reg.Row) (w : World) (ha : RdReg w v a) (hb : RdReg w u b) (va : rvalid a = true) (vb : rvalid b = true) :
    Calls Try.prog 38 #[v, u] w fun e w' => (∃ A c, e = .returned (.agg #[.slice A (rop (opf 0) a b).length c]) ∧ RdReg w' (.agg #[.slice A (rop (opf 0) a b).length c]) (rop (opf 0) a b)) ∧ Below w.heap.size w w' :=
  (subtractReg_any v u a b w ha hb (rvalid_bd va) (rvalid_bd vb)).mono fun e w' ⟨⟨r, he, hr⟩, hb⟩ => ⟨by obtain ⟨A, c, rfl⟩ := hr.slice_; exact ⟨A, c, he, hr⟩, hb⟩
theorem run_fieldR (A : Option Addr) (n c : Nat) (w : World) : (Instr.field 29 (.agg #[.slice A n c]) 0).run Try.prog w = .ok (.slice A n c) w := by
  have h := Try.underlying29
  simp [Instr.field, run_underlying h, go_sem, part, asAgg]
set_option maxRecDepth 100000 in
set_option maxHeartbeats 4000000 in
theorem within_t {a b : List Reg.Row} (v u : Value) (w : World) (ha : RdReg w v a) (hb : RdReg w u b) (va : rvalid a = true) (vb : rvalid b = true) (h : rop (opf 0) a b = []) :
    Calls Try.prog 19 #[v, u] w fun e w' => e = .returned (.bool true) ∧ Below w.heap.size w w' := by
  have HA := Lib.hid ha
  have HB := Lib.hid hb
  obtain ⟨A, capA, rfl⟩ := ha.slice_
  obtain ⟨B, capB, rfl⟩ := hb.slice_
  have H0 := Lib.hid h
  have hfr := run_fieldR
  clear ha hb h
  go_enter Try.func19, Try.ntmps19
  go_wp2_with (first
    | (go_at_call 25; (with_reducible refine (Kin.callK (W := (w.alloc (.cells #[.slice A a.length capA] 29)).alloc (.cells #[.slice B b.length capB] 29)) (by repeat (first | with_reducible exact Below.refl _ _ | with_reducible exact Nat.le_refl _ | with_reducible refine Kin.below _ ?_ | with_reducible refine Below.alloc ?_ ?_ _ | with_reducible refine Below.drew ?_ | with_reducible refine Kin.le _ ?_ | with_reducible refine le_alloc ?_ _ | with_reducible refine le_drew ?_ | with_reducible refine Below.setCell ?_ ?_ _ | with_reducible exact Nat.le_refl _ | (simp only [World.size_alloc]; omega) | (simp <;> omega))) (rvalid_is _ a _ (HA.out.below (by repeat (first | with_reducible exact Below.refl _ _ | with_reducible exact Nat.le_refl _ | with_reducible refine Kin.below _ ?_ | with_reducible refine Below.alloc ?_ ?_ _ | with_reducible refine Below.drew ?_ | with_reducible refine Kin.le _ ?_ | with_reducible refine le_alloc ?_ _ | with_reducible refine le_drew ?_ | with_reducible refine Below.setCell ?_ ?_ _ | with_reducible exact Nat.le_refl _ | (simp only [World.size_alloc]; omega) | (simp <;> omega)))) (rvalid_bd va) va)).mono ?_); rintro e w' ⟨z, rfl, hz, rfl⟩)
    | (go_at_call 25; (with_reducible refine (Kin.callK (W := (w.alloc (.cells #[.slice A a.length capA] 29)).alloc (.cells #[.slice B b.length capB] 29)) (by repeat (first | with_reducible exact Below.refl _ _ | with_reducible exact Nat.le_refl _ | with_reducible refine Kin.below _ ?_ | with_reducible refine Below.alloc ?_ ?_ _ | with_reducible refine Below.drew ?_ | with_reducible refine Kin.le _ ?_ | with_reducible refine le_alloc ?_ _ | with_reducible refine le_drew ?_ | with_reducible refine Below.setCell ?_ ?_ _ | with_reducible exact Nat.le_refl _ | (simp only [World.size_alloc]; omega) | (simp <;> omega))) (rvalid_is _ b _ (HB.out.below (by repeat (first | with_reducible exact Below.refl _ _ | with_reducible exact Nat.le_refl _ | with_reducible refine Kin.below _ ?_ | with_reducible refine Below.alloc ?_ ?_ _ | with_reducible refine Below.drew ?_ | with_reducible refine Kin.le _ ?_ | with_reducible refine le_alloc ?_ _ | with_reducible refine le_drew ?_ | with_reducible refine Below.setCell ?_ ?_ _ | with_reducible exact Nat.le_refl _ | (simp only [World.size_alloc]; omega) | (simp <;> omega)))) (rvalid_bd vb) vb)).mono ?_); rintro e w' ⟨z, rfl, hz, rfl⟩)
    | (go_at_call 38; (with_reducible refine (Kin.callK (W := (w.alloc (.cells #[.slice A a.length capA] 29)).alloc (.cells #[.slice B b.length capB] 29)) (by repeat (first | with_reducible exact Below.refl _ _ | with_reducible exact Nat.le_refl _ | with_reducible refine Kin.below _ ?_ | with_reducible refine Below.alloc ?_ ?_ _ | with_reducible refine Below.drew ?_ | with_reducible refine Kin.le _ ?_ | with_reducible refine le_alloc ?_ _ | with_reducible refine le_drew ?_ | with_reducible refine Below.setCell ?_ ?_ _ | with_reducible exact Nat.le_refl _ | (simp only [World.size_alloc]; omega) | (simp <;> omega))) (subtractReg_two _ _ a b _ (HA.out.below (by repeat (first | with_reducible exact Below.refl _ _ | with_reducible exact Nat.le_refl _ | with_reducible refine Kin.below _ ?_ | with_reducible refine Below.alloc ?_ ?_ _ | with_reducible refine Below.drew ?_ | with_reducible refine Kin.le _ ?_ | with_reducible refine le_alloc ?_ _ | with_reducible refine le_drew ?_ | with_reducible refine Below.setCell ?_ ?_ _ | with_reducible exact Nat.le_refl _ | (simp only [World.size_alloc]; omega) | (simp <;> omega)))) (HB.out.below (by repeat (first | with_reducible exact Below.refl _ _ | with_reducible exact Nat.le_refl _ | with_reducible refine Kin.below _ ?_ | with_reducible refine Below.alloc ?_ ?_ _ | with_reducible refine Below.drew ?_ | with_reducible refine Kin.le _ ?_ | with_reducible refine le_alloc ?_ _ | with_reducible refine le_drew ?_ | with_reducible refine Below.setCell ?_ ?_ _ | with_reducible exact Nat.le_refl _ | (simp only [World.size_alloc]; omega) | (simp <;> omega)))) va vb)).mono ?_); rintro e w' ⟨z, ⟨R, cR, rfl, hr⟩, hz, rfl⟩; (rw [H0.out] at hr ⊢)))
  go_ret
  exact ⟨ret_bool (by simp), (by repeat (first | with_reducible exact Below.refl _ _ | with_reducible exact Nat.le_refl _ | with_reducible refine Kin.below _ ?_ | with_reducible refine Below.alloc ?_ ?_ _ | with_reducible refine Below.drew ?_ | with_reducible refine Kin.le _ ?_ | with_reducible refine le_alloc ?_ _ | with_reducible refine le_drew ?_ | with_reducible refine Below.setCell ?_ ?_ _ | with_reducible exact Nat.le_refl _ | (simp only [World.size_alloc]; omega) | (simp <;> omega)))⟩
theorem skin_sub {rs : List (List Reg.Row)} {i t b t' b' : Int} (ht : t ≤ t') (hb : b ≤ b') (x y : Int) (h : memC (skinR rs i t' b').2 x y = true) : memC (skinR rs i t b).2 x y = true := by
  have hl := layR_valid rs i
  unfold skinR at *
  split at h
  · simp [memC_nil] at h
  rw [if_neg (by assumption)]
  split at h
  · simp [memC_nil] at h
  rw [if_neg (by omega)]
  simp only at h ⊢
  rw [memC_spB (spT_valid hl _), memC_spT hl] at h ⊢
  simp only [Bool.and_eq_true, List.all_eq_true, List.mem_range] at h ⊢
  exact ⟨⟨h.1.1, fun j hj => h.1.2 j (by omega)⟩, fun j hj => h.2 j (by omega)⟩
theorem rop_sub {a b : List Reg.Row} (va : rvalid a = true) (vb : rvalid b = true) (h : ∀ x y, memC a x y = true → memC b x y = true) : rop (opf 0) a b = [] :=
  rop_none (opf_ff 0) va vb fun x y => by
    have := h x y
    cases h1 : memC a x y <;> cases h2 : memC b x y <;> simp_all [opf]
theorem skin_zero (rs : List (List Reg.Row)) (i : Int) : cntR (skinR rs i 0 (-1)).1 = 0 := by
  have hl := layR_valid rs i
  unfold skinR
  split
  · exact cntR_nil
  · rw [if_neg (by omega)]
    have e : rop (opf 0) (layR rs i) (spB rs (spT rs (layR rs i) i (max (0 : Int) 0).toNat) i (max (-1 : Int) 0).toNat) = [] := by
      have e1 : (max (0 : Int) 0).toNat = 0 := by decide
      have e2 : (max (-1 : Int) 0).toNat = 0 := by decide
      rw [e1, e2]
      exact rop_sub hl hl fun x y h => h
    simp only [e]
    exact cntR_nil
theorem skin_le {rs : List (List Reg.Row)} {i t b : Int} (x y : Int) (h : memC (skinR rs i t b).2 x y = true) : memC (skinR rs i 0 (-1)).2 x y = true := by
  have hl := layR_valid rs i
  unfold skinR at *
  split at h
  · simp [memC_nil] at h
  rw [if_neg (by assumption)]
  split at h
  · simp [memC_nil] at h
  rw [if_neg (by omega)]
  simp only at h ⊢
  rw [memC_spB (spT_valid hl _), memC_spT hl] at h ⊢
  simp only [Bool.and_eq_true, List.all_eq_true, List.mem_range] at h ⊢
  exact ⟨⟨h.1.1, fun j hj => absurd hj (by omega)⟩, fun j hj => absurd hj (by omega)⟩
def IsU8 (v : Value) : Prop := ∃ n : Int, v = .int .u8 n ∧ 0 ≤ n ∧ n ≤ 255
set_option maxRecDepth 100000 in
set_option maxHeartbeats 8000000 in
theorem more_walk (W : World) (v : Value) (h : IsAsk W v) (x : Value) (hx : IsU8 x) (y : Value) (hy : IsU8 y) : Calls Try.prog 4 #[v, x, y] W fun e W' => e = .returned (.bool true) ∧ Below W.heap.size W W' := by
  obtain ⟨s, i, t, b, rfl, _, _, _, rs, hrs⟩ := h
  obtain ⟨p, rfl, hp1, hp2⟩ := hx
  obtain ⟨q, rfl, hq1, hq2⟩ := hy
  obtain ⟨L, capL, rfl, hcapL, hop⟩ := regs_open hrs
  have HL := Lib.hid hrs
  clear hrs hop
  cases hsm : smallL rs
  · go_enter Try.func4, Try.ntmps4
    go_wp2_with (first
      | (go_at_call 14; (with_reducible refine (Kin.callK (W := W) (by repeat (first | with_reducible exact Below.refl _ _ | with_reducible exact Nat.le_refl _ | with_reducible refine Kin.below _ ?_ | with_reducible refine Below.alloc ?_ ?_ _ | with_reducible refine Below.drew ?_ | with_reducible refine Kin.le _ ?_ | with_reducible refine le_alloc ?_ _ | with_reducible refine le_drew ?_ | with_reducible refine Below.setCell ?_ ?_ _ | with_reducible exact Nat.le_refl _ | (simp only [World.size_alloc]; omega) | (simp <;> omega))) (small28_is _ rs _ (HL.out.below (by repeat (first | with_reducible exact Below.refl _ _ | with_reducible exact Nat.le_refl _ | with_reducible refine Kin.below _ ?_ | with_reducible refine Below.alloc ?_ ?_ _ | with_reducible refine Below.drew ?_ | with_reducible refine Kin.le _ ?_ | with_reducible refine le_alloc ?_ _ | with_reducible refine le_drew ?_ | with_reducible refine Below.setCell ?_ ?_ _ | with_reducible exact Nat.le_refl _ | (simp only [World.size_alloc]; omega) | (simp <;> omega)))) hsm)).mono ?_); rintro e w' ⟨z, rfl, hz, rfl⟩)
      | (go_at_call 15; (with_reducible refine (Kin.callK (W := W) (by repeat (first | with_reducible exact Below.refl _ _ | with_reducible exact Nat.le_refl _ | with_reducible refine Kin.below _ ?_ | with_reducible refine Below.alloc ?_ ?_ _ | with_reducible refine Below.drew ?_ | with_reducible refine Kin.le _ ?_ | with_reducible refine le_alloc ?_ _ | with_reducible refine le_drew ?_ | with_reducible refine Below.setCell ?_ ?_ _ | with_reducible exact Nat.le_refl _ | (simp only [World.size_alloc]; omega) | (simp <;> omega))) (awake28_any _)).mono ?_); rintro e w' ⟨z, rfl, hz, rfl⟩))
    go_ret
    exact ⟨rfl, (by repeat (first | with_reducible exact Below.refl _ _ | with_reducible exact Nat.le_refl _ | with_reducible refine Kin.below _ ?_ | with_reducible refine Below.alloc ?_ ?_ _ | with_reducible refine Below.drew ?_ | with_reducible refine Kin.le _ ?_ | with_reducible refine le_alloc ?_ _ | with_reducible refine le_drew ?_ | with_reducible refine Below.setCell ?_ ?_ _ | with_reducible exact Nat.le_refl _ | (simp only [World.size_alloc]; omega) | (simp <;> omega)))⟩
  · by_cases ht : -1000 ≤ t ∧ t ≤ 1000 ∧ -1000 ≤ b ∧ b ≤ 1000
    · have hw1 : IntKind.i64.wrap (t + p) = t + p := IntWalk.i64_in _ (by omega)
      have hw2 : IntKind.i64.wrap (b + q) = b + q := IntWalk.i64_in _ (by omega)
      have V1 := Lib.hid (skin_valid rs i t b).2
      have V2 := Lib.hid (skin_valid rs i (t + p) (b + q)).2
      have V3 := Lib.hid (skin_valid rs i 0 (-1))
      have S1 := Lib.hid (rop_sub V2.out V1.out (skin_sub (rs := rs) (i := i) (show t ≤ t + p by omega) (show b ≤ b + q by omega)))
      have S2 := Lib.hid (rop_sub V1.out V3.out.2 (skin_le (rs := rs) (i := i) (t := t) (b := b)))
      have S3 := Lib.hid (skin_zero rs i)
      go_enter Try.func4, Try.ntmps4
      go_wp2_with (first
        | (go_at_call 14; (with_reducible refine (Kin.callK (W := W.alloc (.cells #[.slice L rs.length capL, .int .i64 i, .int .i64 t, .int .i64 b] 24)) (by repeat (first | with_reducible exact Below.refl _ _ | with_reducible exact Nat.le_refl _ | with_reducible refine Kin.below _ ?_ | with_reducible refine Below.alloc ?_ ?_ _ | with_reducible refine Below.drew ?_ | with_reducible refine Kin.le _ ?_ | with_reducible refine le_alloc ?_ _ | with_reducible refine le_drew ?_ | with_reducible refine Below.setCell ?_ ?_ _ | with_reducible exact Nat.le_refl _ | (simp only [World.size_alloc]; omega) | (simp <;> omega))) (small28_is _ rs _ (HL.out.below (by repeat (first | with_reducible exact Below.refl _ _ | with_reducible exact Nat.le_refl _ | with_reducible refine Kin.below _ ?_ | with_reducible refine Below.alloc ?_ ?_ _ | with_reducible refine Below.drew ?_ | with_reducible refine Kin.le _ ?_ | with_reducible refine le_alloc ?_ _ | with_reducible refine le_drew ?_ | with_reducible refine Below.setCell ?_ ?_ _ | with_reducible exact Nat.le_refl _ | (simp only [World.size_alloc]; omega) | (simp <;> omega)))) hsm)).mono ?_); rintro e w' ⟨z, rfl, hz, rfl⟩)
        | (go_at_call 16; (with_reducible refine (Kin.callK (W := W.alloc (.cells #[.slice L rs.length capL, .int .i64 i, .int .i64 t, .int .i64 b] 24)) (by repeat (first | with_reducible exact Below.refl _ _ | with_reducible exact Nat.le_refl _ | with_reducible refine Kin.below _ ?_ | with_reducible refine Below.alloc ?_ ?_ _ | with_reducible refine Below.drew ?_ | with_reducible refine Kin.le _ ?_ | with_reducible refine le_alloc ?_ _ | with_reducible refine le_drew ?_ | with_reducible refine Below.setCell ?_ ?_ _ | with_reducible exact Nat.le_refl _ | (simp only [World.size_alloc]; omega) | (simp <;> omega))) (skin_two _ rs i t b _ (HL.out.below (by repeat (first | with_reducible exact Below.refl _ _ | with_reducible exact Nat.le_refl _ | with_reducible refine Kin.below _ ?_ | with_reducible refine Below.alloc ?_ ?_ _ | with_reducible refine Below.drew ?_ | with_reducible refine Kin.le _ ?_ | with_reducible refine le_alloc ?_ _ | with_reducible refine le_drew ?_ | with_reducible refine Below.setCell ?_ ?_ _ | with_reducible exact Nat.le_refl _ | (simp only [World.size_alloc]; omega) | (simp <;> omega)))) hsm)).mono ?_); rintro e w' ⟨z1, ⟨SA, nA, cA, SB, nB, cB, rfl, ha, hb⟩, hz1, rfl⟩; (have HB := Lib.hid hb; have lx1 := z1.lt2 (b := W.heap.size) (by simp); clear ha hb))
        | (go_at_call 16; (with_reducible refine (Kin.callK (W := ((Kin.wd z1).alloc (.cells #[.slice SA nA cA] 29)).alloc (.cells #[.slice SB nB cB] 29)) (by repeat (first | with_reducible exact Below.refl _ _ | with_reducible exact Nat.le_refl _ | with_reducible refine Kin.below _ ?_ | with_reducible refine Below.alloc ?_ ?_ _ | with_reducible refine Below.drew ?_ | with_reducible refine Kin.le _ ?_ | with_reducible refine le_alloc ?_ _ | with_reducible refine le_drew ?_ | with_reducible refine Below.setCell ?_ ?_ _ | with_reducible exact Nat.le_refl _ | (simp only [World.size_alloc]; omega) | (simp <;> omega))) (skin_two _ rs i (t + p) (b + q) _ (HL.out.below (by repeat (first | with_reducible exact Below.refl _ _ | with_reducible exact Nat.le_refl _ | with_reducible refine Kin.below _ ?_ | with_reducible refine Below.alloc ?_ ?_ _ | with_reducible refine Below.drew ?_ | with_reducible refine Kin.le _ ?_ | with_reducible refine le_alloc ?_ _ | with_reducible refine le_drew ?_ | with_reducible refine Below.setCell ?_ ?_ _ | with_reducible exact Nat.le_refl _ | (simp only [World.size_alloc]; omega) | (simp <;> omega)))) hsm)).mono ?_); rintro e w' ⟨z2, ⟨SC, nC, cC, SD, nD, cD, rfl, hc, hd⟩, hz2, rfl⟩; (have HD := Lib.hid hd; have lx2 := z2.lt2 (b := W.heap.size) (by simp only [World.size_alloc]; exact lx1); clear hc hd))
        | (go_at_call 16; (with_reducible refine (Kin.callK (W := ((Kin.wd z2).alloc (.cells #[.slice SC nC cC] 29)).alloc (.cells #[.slice SD nD cD] 29)) (by repeat (first | with_reducible exact Below.refl _ _ | with_reducible exact Nat.le_refl _ | with_reducible refine Kin.below _ ?_ | with_reducible refine Below.alloc ?_ ?_ _ | with_reducible refine Below.drew ?_ | with_reducible refine Kin.le _ ?_ | with_reducible refine le_alloc ?_ _ | with_reducible refine le_drew ?_ | with_reducible refine Below.setCell ?_ ?_ _ | with_reducible exact Nat.le_refl _ | (simp only [World.size_alloc]; omega) | (simp <;> omega))) (skin_two _ rs i 0 (-1) _ (HL.out.below (by repeat (first | with_reducible exact Below.refl _ _ | with_reducible exact Nat.le_refl _ | with_reducible refine Kin.below _ ?_ | with_reducible refine Below.alloc ?_ ?_ _ | with_reducible refine Below.drew ?_ | with_reducible refine Kin.le _ ?_ | with_reducible refine le_alloc ?_ _ | with_reducible refine le_drew ?_ | with_reducible refine Below.setCell ?_ ?_ _ | with_reducible exact Nat.le_refl _ | (simp only [World.size_alloc]; omega) | (simp <;> omega)))) hsm)).mono ?_); rintro e w' ⟨z3, ⟨SE, nE, cE, SF, nF, cF, rfl, he, hf⟩, hz3, rfl⟩; (have HE := Lib.hid he; have HF := Lib.hid hf; have B1 := Lib.hid (z2.boxes2.2.below (show Below (Kin.wd z2).heap.size (Kin.wd z2) (Kin.wd z3) from (by repeat (first | with_reducible exact Below.refl _ _ | with_reducible exact Nat.le_refl _ | with_reducible refine Kin.below _ ?_ | with_reducible refine Below.alloc ?_ ?_ _ | with_reducible refine Below.drew ?_ | with_reducible refine Kin.le _ ?_ | with_reducible refine le_alloc ?_ _ | with_reducible refine le_drew ?_ | with_reducible refine Below.setCell ?_ ?_ _ | with_reducible exact Nat.le_refl _ | (simp only [World.size_alloc]; omega) | (simp <;> omega))))); have d1 : (Kin.wd z3).cell? ⟨(Kin.wd z1).heap.size + 1, 0, none⟩ = some (.slice SB nB cB) := B1.out.cell 0; have d2 : (Kin.wd z3).cell? ⟨(Kin.wd z2).heap.size + 1, 0, none⟩ = some (.slice SD nD cD) := z3.boxes2.2.cell 0; have k1 : (Kin.wd z1).heap.size + 1 < (Kin.wd z3).heap.size := B1.out.lt; have k2 : (Kin.wd z2).heap.size + 1 < (Kin.wd z3).heap.size := z3.boxes2.2.lt; have k1a := Nat.lt_succ_of_lt k1; have k2a := Nat.lt_succ_of_lt k2; have k1' := Nat.lt_succ_of_lt k1a; have k2' := Nat.lt_succ_of_lt k2a; clear he hf))
        | (go_at_call 19; (with_reducible refine (Kin.callK (W := ((Kin.wd z3).alloc (.cells #[.slice SE nE cE] 29)).alloc (.cells #[.slice SF nF cF] 29)) (by repeat (first | with_reducible exact Below.refl _ _ | with_reducible exact Nat.le_refl _ | with_reducible refine Kin.below _ ?_ | with_reducible refine Below.alloc ?_ ?_ _ | with_reducible refine Below.drew ?_ | with_reducible refine Kin.le _ ?_ | with_reducible refine le_alloc ?_ _ | with_reducible refine le_drew ?_ | with_reducible refine Below.setCell ?_ ?_ _ | with_reducible exact Nat.le_refl _ | (simp only [World.size_alloc]; omega) | (simp <;> omega))) (within_t _ _ _ (HD.out.below (by repeat (first | with_reducible exact Below.refl _ _ | with_reducible exact Nat.le_refl _ | with_reducible refine Kin.below _ ?_ | with_reducible refine Below.alloc ?_ ?_ _ | with_reducible refine Below.drew ?_ | with_reducible refine Kin.le _ ?_ | with_reducible refine le_alloc ?_ _ | with_reducible refine le_drew ?_ | with_reducible refine Below.setCell ?_ ?_ _ | with_reducible exact Nat.le_refl _ | (simp only [World.size_alloc]; omega) | (simp <;> omega)))) (HB.out.below (by repeat (first | with_reducible exact Below.refl _ _ | with_reducible exact Nat.le_refl _ | with_reducible refine Kin.below _ ?_ | with_reducible refine Below.alloc ?_ ?_ _ | with_reducible refine Below.drew ?_ | with_reducible refine Kin.le _ ?_ | with_reducible refine le_alloc ?_ _ | with_reducible refine le_drew ?_ | with_reducible refine Below.setCell ?_ ?_ _ | with_reducible exact Nat.le_refl _ | (simp only [World.size_alloc]; omega) | (simp <;> omega)))) V2.out V1.out S1.out)).mono ?_); rintro e w' ⟨z, rfl, hz, rfl⟩)
        | (go_at_call 19; (with_reducible refine (Kin.callK (W := ((Kin.wd z3).alloc (.cells #[.slice SE nE cE] 29)).alloc (.cells #[.slice SF nF cF] 29)) (by repeat (first | with_reducible exact Below.refl _ _ | with_reducible exact Nat.le_refl _ | with_reducible refine Kin.below _ ?_ | with_reducible refine Below.alloc ?_ ?_ _ | with_reducible refine Below.drew ?_ | with_reducible refine Kin.le _ ?_ | with_reducible refine le_alloc ?_ _ | with_reducible refine le_drew ?_ | with_reducible refine Below.setCell ?_ ?_ _ | with_reducible exact Nat.le_refl _ | (simp only [World.size_alloc]; omega) | (simp <;> omega))) (within_t _ _ _ (HB.out.below (by repeat (first | with_reducible exact Below.refl _ _ | with_reducible exact Nat.le_refl _ | with_reducible refine Kin.below _ ?_ | with_reducible refine Below.alloc ?_ ?_ _ | with_reducible refine Below.drew ?_ | with_reducible refine Kin.le _ ?_ | with_reducible refine le_alloc ?_ _ | with_reducible refine le_drew ?_ | with_reducible refine Below.setCell ?_ ?_ _ | with_reducible exact Nat.le_refl _ | (simp only [World.size_alloc]; omega) | (simp <;> omega)))) (HF.out.below (by repeat (first | with_reducible exact Below.refl _ _ | with_reducible exact Nat.le_refl _ | with_reducible refine Kin.below _ ?_ | with_reducible refine Below.alloc ?_ ?_ _ | with_reducible refine Below.drew ?_ | with_reducible refine Kin.le _ ?_ | with_reducible refine le_alloc ?_ _ | with_reducible refine le_drew ?_ | with_reducible refine Below.setCell ?_ ?_ _ | with_reducible exact Nat.le_refl _ | (simp only [World.size_alloc]; omega) | (simp <;> omega)))) V1.out V3.out.2 S2.out)).mono ?_); rintro e w' ⟨z, rfl, hz, rfl⟩)
        | (go_at_call 20; (with_reducible refine (Kin.callK (W := ((Kin.wd z3).alloc (.cells #[.slice SE nE cE] 29)).alloc (.cells #[.slice SF nF cF] 29)) (by repeat (first | with_reducible exact Below.refl _ _ | with_reducible exact Nat.le_refl _ | with_reducible refine Kin.below _ ?_ | with_reducible refine Below.alloc ?_ ?_ _ | with_reducible refine Below.drew ?_ | with_reducible refine Kin.le _ ?_ | with_reducible refine le_alloc ?_ _ | with_reducible refine le_drew ?_ | with_reducible refine Below.setCell ?_ ?_ _ | with_reducible exact Nat.le_refl _ | (simp only [World.size_alloc]; omega) | (simp <;> omega))) (count_is _ _ _ (HE.out.below (by repeat (first | with_reducible exact Below.refl _ _ | with_reducible exact Nat.le_refl _ | with_reducible refine Kin.below _ ?_ | with_reducible refine Below.alloc ?_ ?_ _ | with_reducible refine Below.drew ?_ | with_reducible refine Kin.le _ ?_ | with_reducible refine le_alloc ?_ _ | with_reducible refine le_drew ?_ | with_reducible refine Below.setCell ?_ ?_ _ | with_reducible exact Nat.le_refl _ | (simp only [World.size_alloc]; omega) | (simp <;> omega)))) (rvalid_bd V3.out.1) S3.out)).mono ?_); rintro e w' ⟨z, rfl, hz, rfl⟩)
        | (go_at_call 15; (with_reducible refine (Kin.callK (W := W) (by repeat (first | with_reducible exact Below.refl _ _ | with_reducible exact Nat.le_refl _ | with_reducible refine Kin.below _ ?_ | with_reducible refine Below.alloc ?_ ?_ _ | with_reducible refine Below.drew ?_ | with_reducible refine Kin.le _ ?_ | with_reducible refine le_alloc ?_ _ | with_reducible refine le_drew ?_ | with_reducible refine Below.setCell ?_ ?_ _ | with_reducible exact Nat.le_refl _ | (simp only [World.size_alloc]; omega) | (simp <;> omega))) (awake28_any _)).mono ?_); rintro e w' ⟨z, rfl, hz, rfl⟩))
      go_ret
      exact ⟨rfl, (by repeat (first | with_reducible exact Below.refl _ _ | with_reducible exact Nat.le_refl _ | with_reducible refine Kin.below _ ?_ | with_reducible refine Below.alloc ?_ ?_ _ | with_reducible refine Below.drew ?_ | with_reducible refine Kin.le _ ?_ | with_reducible refine le_alloc ?_ _ | with_reducible refine le_drew ?_ | with_reducible refine Below.setCell ?_ ?_ _ | with_reducible exact Nat.le_refl _ | (simp only [World.size_alloc]; omega) | (simp <;> omega)))⟩
    · have ht2 : t < -1000 ∨ 1000 < t ∨ b < -1000 ∨ 1000 < b := by omega
      go_enter Try.func4, Try.ntmps4
      go_wp2_with (first
        | (go_at_call 14; (with_reducible refine (Kin.callK (W := W.alloc (.cells #[.slice L rs.length capL, .int .i64 i, .int .i64 t, .int .i64 b] 24)) (by repeat (first | with_reducible exact Below.refl _ _ | with_reducible exact Nat.le_refl _ | with_reducible refine Kin.below _ ?_ | with_reducible refine Below.alloc ?_ ?_ _ | with_reducible refine Below.drew ?_ | with_reducible refine Kin.le _ ?_ | with_reducible refine le_alloc ?_ _ | with_reducible refine le_drew ?_ | with_reducible refine Below.setCell ?_ ?_ _ | with_reducible exact Nat.le_refl _ | (simp only [World.size_alloc]; omega) | (simp <;> omega))) (small28_is _ rs _ (HL.out.below (by repeat (first | with_reducible exact Below.refl _ _ | with_reducible exact Nat.le_refl _ | with_reducible refine Kin.below _ ?_ | with_reducible refine Below.alloc ?_ ?_ _ | with_reducible refine Below.drew ?_ | with_reducible refine Kin.le _ ?_ | with_reducible refine le_alloc ?_ _ | with_reducible refine le_drew ?_ | with_reducible refine Below.setCell ?_ ?_ _ | with_reducible exact Nat.le_refl _ | (simp only [World.size_alloc]; omega) | (simp <;> omega)))) hsm)).mono ?_); rintro e w' ⟨z, rfl, hz, rfl⟩)
        | (go_at_call 15; (with_reducible refine (Kin.callK (W := W) (by repeat (first | with_reducible exact Below.refl _ _ | with_reducible exact Nat.le_refl _ | with_reducible refine Kin.below _ ?_ | with_reducible refine Below.alloc ?_ ?_ _ | with_reducible refine Below.drew ?_ | with_reducible refine Kin.le _ ?_ | with_reducible refine le_alloc ?_ _ | with_reducible refine le_drew ?_ | with_reducible refine Below.setCell ?_ ?_ _ | with_reducible exact Nat.le_refl _ | (simp only [World.size_alloc]; omega) | (simp <;> omega))) (awake28_any _)).mono ?_); rintro e w' ⟨z, rfl, hz, rfl⟩))
      all_goals first
        | (go_ret; exact ⟨rfl, (by repeat (first | with_reducible exact Below.refl _ _ | with_reducible exact Nat.le_refl _ | with_reducible refine Kin.below _ ?_ | with_reducible refine Below.alloc ?_ ?_ _ | with_reducible refine Below.drew ?_ | with_reducible refine Kin.le _ ?_ | with_reducible refine le_alloc ?_ _ | with_reducible refine le_drew ?_ | with_reducible refine Below.setCell ?_ ?_ _ | with_reducible exact Nat.le_refl _ | (simp only [World.size_alloc]; omega) | (simp <;> omega)))⟩)
        | (exfalso; omega)
set_option maxRecDepth 100000 in
theorem open_u8 {H : Type} {enc : TypeId × Value → H} {W : World} {r : Reach} {b0 base : Nat} {spare : Nat → Bool} {held : Bool} {v : Value} {d : DataW H} {ps : List MemPlace} (hv : Value.okWide Try.prog W r b0 5 v) (h : DataW.Trod enc Try.prog W base spare held 5 v d ps) : ∃ n : Int, v = .int .u8 n ∧ 0 ≤ n ∧ n ≤ 255 := by
  obtain ⟨n, rfl, _, _, wf⟩ := open_int Try.underlying5 hv h
  exact ⟨n, rfl, bounds_u8 wf⟩
set_option maxRecDepth 100000 in
theorem skinMore_lifted (os : Os) (started : os.Started) (H : Type) (enc : TypeId × Value → H) :
    ReturnsInHanded {} Try.checked os 4 .any (Rows.skinMoreSpec.pre6 enc Try.prog Try.f4 Rows.skinMoreRow.domain false) (Rows.skinMoreSpec.post enc Try.prog Try.f4 false true false false) := by
  refine returnsInHanded_of_change (C := Try.checked) own started (by kernel_rfl) Try.func4
    (ChangeSpec.witness6 (enc := enc) (C := Try.checked) false ⟨#[], #[.agg #[.slice none 0 0, .int .i64 0, .int .i64 0, .int .i64 0], .int .u8 0, .int .u8 0], []⟩ 8 (by kernel_rfl) (by kernel_rfl) (by kernel_rfl) (by kernel_rfl)) ?_
  intro W base args ds gs before hval0 hW hcnd _
  have hval : ∀ (j : Nat) t v, Try.f4.params[j]? = some t → args[j]? = some v → Value.okWide Try.prog W .any base t v := hval0
  have hW' := hW
  obtain ⟨p, q, hA0, hV, rfl, hfz, hnd⟩ := hW
  have hA : DataW.TrodAll enc Try.prog W 0 (fun _ => true) true Try.f4.params.toList args.toList ds p := hA0
  rw [Try.params4] at hA hval
  have hAA := hA
  obtain ⟨v0, vs0, d0, ds0, p0, q0, hargs, rfl, rfl, h0, r0⟩ := trodAll_cons hA
  obtain ⟨v1, vs1, d1, ds1, p1, q1, rfl, rfl, rfl, h1, r1⟩ := trodAll_cons r0
  obtain ⟨v2, vs2, d2, ds2, p2, q2, rfl, rfl, rfl, h2, r2⟩ := trodAll_cons r1
  obtain ⟨rfl, rfl, rfl⟩ := trodAll_nil r2
  obtain rfl : args = #[v0, v1, v2] := by cases args; simp_all
  obtain ⟨rfl, rfl⟩ := trodVars_none hV
  have o0 := open_ask (hval 0 24 v0 rfl rfl) h0
  have o1 := open_u8 (hval 1 5 v1 rfl rfl) h1
  have o2 := open_u8 (hval 2 5 v2 rfl rfl) h2
  have hlt : ∀ x ∈ p0 ++ (p1 ++ (p2 ++ [])), x.block < W.heap.size := fun x hx => hW'.lt x (by simpa using hx)
  refine (more_walk W _ o0 _ o1 _ o2).mono fun e W' ⟨he, bel⟩ => ?_
  subst he
  exact ⟨_, rfl, _, _, _, [], _, [], hW', trodAll_mk1 (shut_bool Try.underlying4 _), below_trodAll laidOut bel _ _ _ _ (by
    intro t ht
    have hcl : ([24, 5, 5] : List TypeId).all (fun t => Try.prog.readableRec t && decide (t < Try.prog.types.size)) = true := by kernel_rfl
    have := List.all_eq_true.1 hcl t ht
    simpa using this) hlt hAA, rfl, bel.frame _, fun h => by cases h⟩
/-- SkinMore: for every input the call returns true, and the arguments read behind it as before. No condition. -/
theorem skinMore_holds : Rows.SkinMoreSaid :=
  OpenClaim.holds_of_wide 4 Try.f4 rfl rfl rfl rfl rfl rfl rfl ⟨rfl, rfl, rfl, rfl, rfl⟩ rfl rfl rfl rfl rfl (by kernel_rfl) Try.func4 (by kernel_rfl)
    (of_decide_eq_true (by kernel_rfl)) (by unfold Func.isWrapper; rw [if_neg (of_decide_eq_false (by kernel_rfl))]; exact ⟨rfl, rfl⟩)
    (fun os started H enc _ => skinMore_lifted os started H enc)

end Go.Proofs.Ytfoedkdmckhihaa

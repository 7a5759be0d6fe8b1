/- SkinDivides: the solid and the sparse cells divide the layer: for every input the law returns true. No condition. -/
import Derived.Test.YtfoedkdmckhihaaSkinAwake
namespace Go.Proofs.Ytfoedkdmckhihaa
set_option linter.unusedSimpArgs false
set_option linter.unusedVariables false
open Go.ChangeShapes Go.WideShapes Go.ChangeAt Go.RowKit Go.Joins Runs Reg
attribute [local go_sem] Kin.cell Kin.frozen Kin.lt0 Kin.lt1 Kin.lt2 Kin.lt3 run_mkf
theorem memC_rop {f : Bool → Bool → Bool} (hf : f false false = false) {a b : List Reg.Row} (ha : rvalid a = true) (hb : rvalid b = true) (x y : Int) : memC (rop f a b) x y = f (memC a x y) (memC b x y) := (rop_spec hf ha hb).2 x y
theorem memC_spT {rs : List (List Reg.Row)} {all : List Reg.Row} {i : Int} (h : rvalid all = true) (x y : Int) : ∀ k, memC (spT rs all i k) x y = (memC all x y && (List.range k).all fun j => memC (layR rs (i + 1 + j)) x y)
  | 0 => by simp [spT]
  | k + 1 => by
    rw [spT, memC_rop (opf_ff 1) (spT_valid h k) (layR_valid _ _), memC_spT h x y k]
    simp [List.range_succ, opf, Bool.and_assoc]
theorem memC_spB {rs : List (List Reg.Row)} {s : List Reg.Row} {i : Int} (h : rvalid s = true) (x y : Int) : ∀ k, memC (spB rs s i k) x y = (memC s x y && (List.range k).all fun j => memC (layR rs (i - 1 - j)) x y)
  | 0 => by simp [spB]
  | k + 1 => by
    rw [spB, memC_rop (opf_ff 1) (spB_valid h k) (layR_valid _ _), memC_spB h x y k]
    simp [List.range_succ, opf, Bool.and_assoc]
theorem rop_none {f : Bool → Bool → Bool} (hf : f false false = false) {a b : List Reg.Row} (ha : rvalid a = true) (hb : rvalid b = true) (h : ∀ x y, f (memC a x y) (memC b x y) = false) : rop f a b = [] :=
  (rop_eq hf ha hb vreg_nil (fun x y => by rw [memC_nil, h])).symm
theorem cntR_nil : cntR [] = 0 := by decide
theorem skin_valid (rs : List (List Reg.Row)) (i t b : Int) : rvalid (skinR rs i t b).1 = true ∧ rvalid (skinR rs i t b).2 = true := by
  unfold skinR
  split
  · exact ⟨rvalid_nil, rvalid_nil⟩
  · split
    · exact ⟨layR_valid _ _, rvalid_nil⟩
    · exact ⟨rop_valid (opf_ff 0) _ _, spB_valid (spT_valid (layR_valid _ _) _) _⟩
theorem skin_divide {rs : List (List Reg.Row)} {i : Int} (t b : Int) (h : 0 ≤ i ∧ i < (rs.length : Int)) : rop (opf 2) (skinR rs i t b).1 (skinR rs i t b).2 = layR rs i ∧ rop (opf 1) (skinR rs i t b).1 (skinR rs i t b).2 = [] := by
  have hl := layR_valid rs i
  unfold skinR
  rw [if_neg (by omega)]
  split
  · exact ⟨rop_empty hl, rop_none (opf_ff 1) hl rvalid_nil (fun x y => by rw [memC_nil]; simp [opf])⟩
  · have hsv := spB_valid (rs := rs) (i := i) (spT_valid (rs := rs) (i := i) hl (max t 0).toNat) (max b 0).toNat
    have hm : ∀ x y, memC (spB rs (spT rs (layR rs i) i (max t 0).toNat) i (max b 0).toNat) x y = true → memC (layR rs i) x y = true := fun x y h => by
      rw [memC_spB (spT_valid hl _), memC_spT hl] at h
      simp only [Bool.and_eq_true] at h
      exact h.1.1
    refine ⟨(rop_eq (opf_ff 2) (rop_valid (opf_ff 0) _ _) hsv (rvalid_iff.1 hl) (fun x y => ?_)).symm, rop_none (opf_ff 1) (rop_valid (opf_ff 0) _ _) hsv (fun x y => ?_)⟩
    · rw [memC_rop (opf_ff 0) hl hsv]
      have := hm x y
      generalize memC (spB rs (spT rs (layR rs i) i (max t 0).toNat) i (max b 0).toNat) x y = p at *
      generalize memC (layR rs i) x y = q at *
      cases p <;> cases q <;> simp_all [opf]
    · rw [memC_rop (opf_ff 0) hl hsv]
      generalize memC (spB rs (spT rs (layR rs i) i (max t 0).toNat) i (max b 0).toNat) x y = p
      generalize memC (layR rs i) x y = q
      cases p <;> cases q <;> simp [opf]
theorem count_is {n : Int} (v : Value) (rows : List Reg.Row) (w : World) (h : RdReg w v rows) (hbd : RBd rows) (hn : cntR rows = n) :
    Calls Try.prog 20 #[v] w fun e w' => e = .returned (.int .i64 n) ∧ Below w.heap.size w w' := by subst hn; exact count_any v rows w h hbd
theorem same_t {a b : List Reg.Row} (v u : Value) (w : World) (ha : RdReg w v a) (hb : RdReg w u b) (va : rvalid a = true) (he : a = b) :
    Calls Try.prog 21 #[v, u] w fun e w' => e = .returned (.bool true) ∧ Below w.heap.size w w' := by
  subst he
  have := same_reg v u a a w ha hb (rvalid_bd va) (rvalid_bd va)
  rw [va] at this
  simpa using this
theorem small28_is {b : Bool} (v : Value) (rs : List (List Reg.Row)) (w : World) (h : RdRegs w v rs) (hs : smallL rs = b) :
    Calls Try.prog 14 #[v] w fun e w' => e = .returned (.bool b) ∧ Below w.heap.size w w' := by subst hs; exact small28_any v rs w h
/-- what Skin returns, its slices named -/
theorem skin_two (v : Value) (rs : List (List Reg.Row)) (i t b : Int) (w : World) (h : RdRegs w v rs) (hs : smallL rs = true) :
    Calls Try.prog 16 #[v, .int .i64 i, .int .i64 t, .int .i64 b] w fun e w' => (∃ A n c B m d, e = .returned (.tuple #[.agg #[.slice A n c], .agg #[.slice B m d]]) ∧ RdReg w' (.agg #[.slice A n c]) (skinR rs i t b).1 ∧ RdReg w' (.agg #[.slice B m d]) (skinR rs i t b).2) ∧ Below w.heap.size w w' := by
  have hb := smallL_bd hs
  refine (skin_any v rs i t b w h hb.2 (by omega)).mono fun e w' ⟨⟨x, y, he', h1, h2⟩, hb⟩ => ⟨?_, hb⟩
  obtain ⟨A, c, rfl⟩ := h1.slice_
  obtain ⟨B, d, rfl⟩ := h2.slice_
  exact ⟨A, _, c, B, _, d, he', h1, h2⟩
theorem unionReg_two (v u : Value) (a b : List Reg.Row) (w : World) (ha : RdReg w v a) (hb : RdReg w u b) (va : rvalid a = true) (vb : rvalid b = true) :
    Calls Try.prog 26 #[v, u] w fun e w' => (∃ A n c, e = .returned (.agg #[.slice A n c]) ∧ RdReg w' (.agg #[.slice A n c]) (rop (opf 2) a b)) ∧ Below w.heap.size w w' :=
  (unionReg_any v u a b w ha hb (rvalid_bd va) (rvalid_bd vb)).mono fun e w' ⟨⟨r, he, hr⟩, hb⟩ => ⟨by obtain ⟨A, c, rfl⟩ := hr.slice_; exact ⟨A, _, c, he, hr⟩, hb⟩
theorem intersectReg_two (v u : Value) (a b : List Reg.Row) (w : World) (ha : RdReg w v a) (hb : RdReg w u b) (va : rvalid a = true) (vb : rvalid b = true) :
    Calls Try.prog 27 #[v, u] w fun e w' => (∃ A n c, e = .returned (.agg #[.slice A n c]) ∧ RdReg w' (.agg #[.slice A n c]) (rop (opf 1) a b)) ∧ Below w.heap.size w w' :=
  (intersectReg_any v u a b w ha hb (rvalid_bd va) (rvalid_bd vb)).mono fun e w' ⟨⟨r, he, hr⟩, hb⟩ => ⟨by obtain ⟨A, c, rfl⟩ := hr.slice_; exact ⟨A, _, c, he, hr⟩, hb⟩
set_option maxRecDepth 100000 in
set_option maxHeartbeats 8000000 in
theorem divides_walk (W : World) (v : Value) (h : IsAsk W v) : Calls Try.prog 7 #[v] W fun e W' => e = .returned (.bool true) ∧ Below W.heap.size W W' := by
  obtain ⟨s, i, t, b, rfl, _, _, _, rs, hrs⟩ := h
  obtain ⟨L, capL, rfl, hcapL, hop⟩ := regs_open hrs
  have HL := Lib.hid hrs
  clear hrs
  cases hsm : smallL rs
  · clear hop
    go_enter Try.func7, Try.ntmps7
    go_wp2_with (first
      | (go_at_call 14; go_loud ((with_reducible refine (Kin.callK (W := W) (by repeat (first | with_reducible exact Below.refl _ _ | with_reducible exact Nat.le_refl _ | with_reducible refine Kin.below _ ?_ | with_reducible refine Below.alloc ?_ ?_ _ | with_reducible refine Below.drew ?_ | with_reducible refine Kin.le _ ?_ | with_reducible refine le_alloc ?_ _ | with_reducible refine le_drew ?_ | with_reducible refine Below.setCell ?_ ?_ _ | with_reducible exact Nat.le_refl _ | (simp only [World.size_alloc]; omega) | (simp <;> omega))) (small28_is _ rs _ (HL.out.below (by repeat (first | with_reducible exact Below.refl _ _ | with_reducible exact Nat.le_refl _ | with_reducible refine Kin.below _ ?_ | with_reducible refine Below.alloc ?_ ?_ _ | with_reducible refine Below.drew ?_ | with_reducible refine Kin.le _ ?_ | with_reducible refine le_alloc ?_ _ | with_reducible refine le_drew ?_ | with_reducible refine Below.setCell ?_ ?_ _ | with_reducible exact Nat.le_refl _ | (simp only [World.size_alloc]; omega) | (simp <;> omega)))) hsm)).mono ?_); rintro e w' ⟨z, rfl, hz, rfl⟩))
      | (go_at_call 15; go_loud ((with_reducible refine (Kin.callK (W := W) (by repeat (first | with_reducible exact Below.refl _ _ | with_reducible exact Nat.le_refl _ | with_reducible refine Kin.below _ ?_ | with_reducible refine Below.alloc ?_ ?_ _ | with_reducible refine Below.drew ?_ | with_reducible refine Kin.le _ ?_ | with_reducible refine le_alloc ?_ _ | with_reducible refine le_drew ?_ | with_reducible refine Below.setCell ?_ ?_ _ | with_reducible exact Nat.le_refl _ | (simp only [World.size_alloc]; omega) | (simp <;> omega))) (awake28_any _)).mono ?_); rintro e w' ⟨z, rfl, hz, rfl⟩)))
    go_ret
    exact ⟨rfl, (by repeat (first | with_reducible exact Below.refl _ _ | with_reducible exact Nat.le_refl _ | with_reducible refine Kin.below _ ?_ | with_reducible refine Below.alloc ?_ ?_ _ | with_reducible refine Below.drew ?_ | with_reducible refine Kin.le _ ?_ | with_reducible refine le_alloc ?_ _ | with_reducible refine le_drew ?_ | with_reducible refine Below.setCell ?_ ?_ _ | with_reducible exact Nat.le_refl _ | (simp only [World.size_alloc]; omega) | (simp <;> omega)))⟩
  · have hbd := smallL_bd hsm
    by_cases hi : 0 ≤ i ∧ i < (rs.length : Int)
    · obtain ⟨k, rfl⟩ : ∃ k : Nat, i = (k : Int) := ⟨i.toNat, by omega⟩
      have hk : k < rs.length := by omega
      obtain ⟨r, hr⟩ : ∃ el_, rs[k]? = some el_ := ⟨_, List.getElem?_eq_getElem hk⟩
      obtain ⟨bL, offL, rfl, hbL, hc⟩ := hop k _ hr
      obtain ⟨S, n, c, h1, h2⟩ := hc k r hr
      have Hr := Lib.hid hr
      have HRd := Lib.hid h2
      have hbr := Lib.hid (hbd.2 r (List.mem_of_getElem? hr))
      have hbL2 : bL < W.heap.size + 1 := by omega
      clear hop hr hc h2 hbd
      cases hv : rvalid r
      · go_enter Try.func7, Try.ntmps7
        go_wp2_with (first
          | (go_at_call 14; go_loud ((with_reducible refine (Kin.callK (W := W.alloc (.cells #[.slice (some ⟨bL, offL, none⟩) rs.length capL, .int .i64 k, .int .i64 t, .int .i64 b] 24)) (by repeat (first | with_reducible exact Below.refl _ _ | with_reducible exact Nat.le_refl _ | with_reducible refine Kin.below _ ?_ | with_reducible refine Below.alloc ?_ ?_ _ | with_reducible refine Below.drew ?_ | with_reducible refine Kin.le _ ?_ | with_reducible refine le_alloc ?_ _ | with_reducible refine le_drew ?_ | with_reducible refine Below.setCell ?_ ?_ _ | with_reducible exact Nat.le_refl _ | (simp only [World.size_alloc]; omega) | (simp <;> omega))) (small28_is _ rs _ (HL.out.below (by repeat (first | with_reducible exact Below.refl _ _ | with_reducible exact Nat.le_refl _ | with_reducible refine Kin.below _ ?_ | with_reducible refine Below.alloc ?_ ?_ _ | with_reducible refine Below.drew ?_ | with_reducible refine Kin.le _ ?_ | with_reducible refine le_alloc ?_ _ | with_reducible refine le_drew ?_ | with_reducible refine Below.setCell ?_ ?_ _ | with_reducible exact Nat.le_refl _ | (simp only [World.size_alloc]; omega) | (simp <;> omega)))) hsm)).mono ?_); rintro e w' ⟨z, rfl, hz, rfl⟩))
          | (go_at_call 25; go_loud ((with_reducible refine (Kin.callK (W := W.alloc (.cells #[.slice (some ⟨bL, offL, none⟩) rs.length capL, .int .i64 k, .int .i64 t, .int .i64 b] 24)) (by repeat (first | with_reducible exact Below.refl _ _ | with_reducible exact Nat.le_refl _ | with_reducible refine Kin.below _ ?_ | with_reducible refine Below.alloc ?_ ?_ _ | with_reducible refine Below.drew ?_ | with_reducible refine Kin.le _ ?_ | with_reducible refine le_alloc ?_ _ | with_reducible refine le_drew ?_ | with_reducible refine Below.setCell ?_ ?_ _ | with_reducible exact Nat.le_refl _ | (simp only [World.size_alloc]; omega) | (simp <;> omega))) (rvalid_is _ r _ (HRd.out.below (by repeat (first | with_reducible exact Below.refl _ _ | with_reducible exact Nat.le_refl _ | with_reducible refine Kin.below _ ?_ | with_reducible refine Below.alloc ?_ ?_ _ | with_reducible refine Below.drew ?_ | with_reducible refine Kin.le _ ?_ | with_reducible refine le_alloc ?_ _ | with_reducible refine le_drew ?_ | with_reducible refine Below.setCell ?_ ?_ _ | with_reducible exact Nat.le_refl _ | (simp only [World.size_alloc]; omega) | (simp <;> omega)))) hbr.out hv)).mono ?_); rintro e w' ⟨z, rfl, hz, rfl⟩))
          | (go_at_call 15; go_loud ((with_reducible refine (Kin.callK (W := W) (by repeat (first | with_reducible exact Below.refl _ _ | with_reducible exact Nat.le_refl _ | with_reducible refine Kin.below _ ?_ | with_reducible refine Below.alloc ?_ ?_ _ | with_reducible refine Below.drew ?_ | with_reducible refine Kin.le _ ?_ | with_reducible refine le_alloc ?_ _ | with_reducible refine le_drew ?_ | with_reducible refine Below.setCell ?_ ?_ _ | with_reducible exact Nat.le_refl _ | (simp only [World.size_alloc]; omega) | (simp <;> omega))) (awake28_any _)).mono ?_); rintro e w' ⟨z, rfl, hz, rfl⟩)))
        go_ret
        exact ⟨rfl, (by repeat (first | with_reducible exact Below.refl _ _ | with_reducible exact Nat.le_refl _ | with_reducible refine Kin.below _ ?_ | with_reducible refine Below.alloc ?_ ?_ _ | with_reducible refine Below.drew ?_ | with_reducible refine Kin.le _ ?_ | with_reducible refine le_alloc ?_ _ | with_reducible refine le_drew ?_ | with_reducible refine Below.setCell ?_ ?_ _ | with_reducible exact Nat.le_refl _ | (simp only [World.size_alloc]; omega) | (simp <;> omega)))⟩
      · have hdv := skin_divide (rs := rs) (i := (k : Int)) t b hi
        have hlr : layR rs (k : Int) = r := by simp [layR, Hr.out, hv]
        rw [hlr] at hdv
        have HD1 := Lib.hid hdv.1
        have HD2 := Lib.hid hdv.2
        have HV1 := Lib.hid (skin_valid rs k t b).1
        have HV2 := Lib.hid (skin_valid rs k t b).2
        clear hdv hlr
        go_enter Try.func7, Try.ntmps7
        go_wp2_with (first
          | (go_at_call 14; go_loud ((with_reducible refine (Kin.callK (W := W.alloc (.cells #[.slice (some ⟨bL, offL, none⟩) rs.length capL, .int .i64 k, .int .i64 t, .int .i64 b] 24)) (by repeat (first | with_reducible exact Below.refl _ _ | with_reducible exact Nat.le_refl _ | with_reducible refine Kin.below _ ?_ | with_reducible refine Below.alloc ?_ ?_ _ | with_reducible refine Below.drew ?_ | with_reducible refine Kin.le _ ?_ | with_reducible refine le_alloc ?_ _ | with_reducible refine le_drew ?_ | with_reducible refine Below.setCell ?_ ?_ _ | with_reducible exact Nat.le_refl _ | (simp only [World.size_alloc]; omega) | (simp <;> omega))) (small28_is _ rs _ (HL.out.below (by repeat (first | with_reducible exact Below.refl _ _ | with_reducible exact Nat.le_refl _ | with_reducible refine Kin.below _ ?_ | with_reducible refine Below.alloc ?_ ?_ _ | with_reducible refine Below.drew ?_ | with_reducible refine Kin.le _ ?_ | with_reducible refine le_alloc ?_ _ | with_reducible refine le_drew ?_ | with_reducible refine Below.setCell ?_ ?_ _ | with_reducible exact Nat.le_refl _ | (simp only [World.size_alloc]; omega) | (simp <;> omega)))) hsm)).mono ?_); rintro e w' ⟨z, rfl, hz, rfl⟩))
          | (go_at_call 25; go_loud ((with_reducible refine (Kin.callK (W := W.alloc (.cells #[.slice (some ⟨bL, offL, none⟩) rs.length capL, .int .i64 k, .int .i64 t, .int .i64 b] 24)) (by repeat (first | with_reducible exact Below.refl _ _ | with_reducible exact Nat.le_refl _ | with_reducible refine Kin.below _ ?_ | with_reducible refine Below.alloc ?_ ?_ _ | with_reducible refine Below.drew ?_ | with_reducible refine Kin.le _ ?_ | with_reducible refine le_alloc ?_ _ | with_reducible refine le_drew ?_ | with_reducible refine Below.setCell ?_ ?_ _ | with_reducible exact Nat.le_refl _ | (simp only [World.size_alloc]; omega) | (simp <;> omega))) (rvalid_is _ r _ (HRd.out.below (by repeat (first | with_reducible exact Below.refl _ _ | with_reducible exact Nat.le_refl _ | with_reducible refine Kin.below _ ?_ | with_reducible refine Below.alloc ?_ ?_ _ | with_reducible refine Below.drew ?_ | with_reducible refine Kin.le _ ?_ | with_reducible refine le_alloc ?_ _ | with_reducible refine le_drew ?_ | with_reducible refine Below.setCell ?_ ?_ _ | with_reducible exact Nat.le_refl _ | (simp only [World.size_alloc]; omega) | (simp <;> omega)))) hbr.out hv)).mono ?_); rintro e w' ⟨z, rfl, hz, rfl⟩))
          | (go_at_call 16; go_loud ((with_reducible refine (Kin.callK (W := W.alloc (.cells #[.slice (some ⟨bL, offL, none⟩) rs.length capL, .int .i64 k, .int .i64 t, .int .i64 b] 24)) (by repeat (first | with_reducible exact Below.refl _ _ | with_reducible exact Nat.le_refl _ | with_reducible refine Kin.below _ ?_ | with_reducible refine Below.alloc ?_ ?_ _ | with_reducible refine Below.drew ?_ | with_reducible refine Kin.le _ ?_ | with_reducible refine le_alloc ?_ _ | with_reducible refine le_drew ?_ | with_reducible refine Below.setCell ?_ ?_ _ | with_reducible exact Nat.le_refl _ | (simp only [World.size_alloc]; omega) | (simp <;> omega))) (skin_two _ rs k t b _ (HL.out.below (by repeat (first | with_reducible exact Below.refl _ _ | with_reducible exact Nat.le_refl _ | with_reducible refine Kin.below _ ?_ | with_reducible refine Below.alloc ?_ ?_ _ | with_reducible refine Below.drew ?_ | with_reducible refine Kin.le _ ?_ | with_reducible refine le_alloc ?_ _ | with_reducible refine le_drew ?_ | with_reducible refine Below.setCell ?_ ?_ _ | with_reducible exact Nat.le_refl _ | (simp only [World.size_alloc]; omega) | (simp <;> omega)))) hsm)).mono ?_); rintro e w' ⟨z1, ⟨SA, nA, cA, SB, nB, cB, rfl, ha, hb⟩, hz1, rfl⟩; (have HA := Lib.hid ha; have HB := Lib.hid hb; clear ha hb))))
        obtain ⟨y9, hX⟩ : ∃ y9 : Kin (W.alloc (.cells #[.slice (some ⟨bL, offL, none⟩) rs.length capL, .int .i64 k, .int .i64 t, .int .i64 b] 24)), y9.1 = (z1.1.alloc (.cells #[.slice SA nA cA] 29)).alloc (.cells #[.slice SB nB cB] 29) := ⟨⟨(z1.1.alloc (.cells #[.slice SA nA cA] 29)).alloc (.cells #[.slice SB nB cB] 29), (by repeat (first | with_reducible exact Below.refl _ _ | with_reducible exact Nat.le_refl _ | with_reducible refine Kin.below _ ?_ | with_reducible refine Below.alloc ?_ ?_ _ | with_reducible refine Below.drew ?_ | with_reducible refine Kin.le _ ?_ | with_reducible refine le_alloc ?_ _ | with_reducible refine le_drew ?_ | with_reducible refine Below.setCell ?_ ?_ _ | with_reducible exact Nat.le_refl _ | (simp only [World.size_alloc]; omega) | (simp <;> omega)))⟩, rfl⟩
        rw [← hX]
        have h1X : Below z1.1.heap.size z1.1 y9.1 := by rw [hX]; exact (by repeat (first | with_reducible exact Below.refl _ _ | with_reducible exact Nat.le_refl _ | with_reducible refine Kin.below _ ?_ | with_reducible refine Below.alloc ?_ ?_ _ | with_reducible refine Below.drew ?_ | with_reducible refine Kin.le _ ?_ | with_reducible refine le_alloc ?_ _ | with_reducible refine le_drew ?_ | with_reducible refine Below.setCell ?_ ?_ _ | with_reducible exact Nat.le_refl _ | (simp only [World.size_alloc]; omega) | (simp <;> omega)))
        have e0 : y9.1.cell? ⟨W.heap.size, 0, none⟩ = some (.slice (some ⟨bL, offL, none⟩) rs.length capL) := (y9.cell (by simp)).trans (by simp)
        have e1 : y9.1.cell? ⟨W.heap.size, 1, none⟩ = some (.int .i64 k) := (y9.cell (by simp)).trans (by simp)
        have el : W.heap.size < y9.1.heap.size := y9.lt0 (by simp)
        have e2 : y9.1.cell? ⟨z1.1.heap.size, 0, none⟩ = some (.slice SA nA cA) := by rw [hX]; simp
        have e3 : y9.1.cell? ⟨z1.1.heap.size + 1, 0, none⟩ = some (.slice SB nB cB) := by rw [hX]; simp
        have el2 : z1.1.heap.size < y9.1.heap.size := by rw [hX]; simp; omega
        have el3 : z1.1.heap.size + 1 < y9.1.heap.size := by rw [hX]; simp
        have e4 : y9.1.cell? ⟨bL, offL + k, none⟩ = some (.slice S n c) := (y9.cell (by simp; omega)).trans ((World.cell?_alloc_lt _ _ _ hbL).trans h1)
        have el4 : bL < y9.1.heap.size := y9.lt0 (by simp; omega)
        have HAX := Lib.hid (HA.out.below h1X)
        have HBX := Lib.hid (HB.out.below h1X)
        have HRX := Lib.hid (HRd.out.below (show Below W.heap.size W y9.1 from (by repeat (first | with_reducible exact Below.refl _ _ | with_reducible exact Nat.le_refl _ | with_reducible refine Kin.below _ ?_ | with_reducible refine Below.alloc ?_ ?_ _ | with_reducible refine Below.drew ?_ | with_reducible refine Kin.le _ ?_ | with_reducible refine le_alloc ?_ _ | with_reducible refine le_drew ?_ | with_reducible refine Below.setCell ?_ ?_ _ | with_reducible exact Nat.le_refl _ | (simp only [World.size_alloc]; omega) | (simp <;> omega)))))
        clear h1X hX h1
        go_region_held (fun w' => w'.cell? ⟨W.heap.size, 0, none⟩ = some (.slice (some ⟨bL, offL, none⟩) rs.length capL) ∧ w'.cell? ⟨W.heap.size, 1, none⟩ = some (.int .i64 k) ∧ w'.cell? ⟨(Kin.wd z1).heap.size, 0, none⟩ = some (.slice SA nA cA) ∧ w'.cell? ⟨(Kin.wd z1).heap.size + 1, 0, none⟩ = some (.slice SB nB cB) ∧ w'.cell? ⟨bL, offL + k, none⟩ = some (.slice S n c)) (refine ⟨?_, ?_, ?_, ?_, ?_⟩ <;> first | assumption | (refine (Kin.cell (W := (Kin.wd y9)) _ ?_).trans ?_ <;> assumption) | simp [*, World.cell?_alloc_some, World.cell?_setCell_far]) (first
          | (go_at_call 26; go_loud ((with_reducible refine (Kin.callK (W := (Kin.wd y9)) (by repeat (first | with_reducible exact Below.refl _ _ | with_reducible exact Nat.le_refl _ | with_reducible refine Kin.below _ ?_ | with_reducible refine Below.alloc ?_ ?_ _ | with_reducible refine Below.drew ?_ | with_reducible refine Kin.le _ ?_ | with_reducible refine le_alloc ?_ _ | with_reducible refine le_drew ?_ | with_reducible refine Below.setCell ?_ ?_ _ | with_reducible exact Nat.le_refl _ | (simp only [World.size_alloc]; omega) | (simp <;> omega))) (unionReg_two _ _ _ _ _ (HAX.out.below (by repeat (first | with_reducible exact Below.refl _ _ | with_reducible exact Nat.le_refl _ | with_reducible refine Kin.below _ ?_ | with_reducible refine Below.alloc ?_ ?_ _ | with_reducible refine Below.drew ?_ | with_reducible refine Kin.le _ ?_ | with_reducible refine le_alloc ?_ _ | with_reducible refine le_drew ?_ | with_reducible refine Below.setCell ?_ ?_ _ | with_reducible exact Nat.le_refl _ | (simp only [World.size_alloc]; omega) | (simp <;> omega)))) (HBX.out.below (by repeat (first | with_reducible exact Below.refl _ _ | with_reducible exact Nat.le_refl _ | with_reducible refine Kin.below _ ?_ | with_reducible refine Below.alloc ?_ ?_ _ | with_reducible refine Below.drew ?_ | with_reducible refine Kin.le _ ?_ | with_reducible refine le_alloc ?_ _ | with_reducible refine le_drew ?_ | with_reducible refine Below.setCell ?_ ?_ _ | with_reducible exact Nat.le_refl _ | (simp only [World.size_alloc]; omega) | (simp <;> omega)))) HV1.out HV2.out)).mono ?_); rintro e w' ⟨zu, ⟨UA, nU, cU, rfl, hu⟩, hzu, rfl⟩; (rw [HD1.out] at hu; have HU := Lib.hid hu; clear hu)))
          | (go_at_call 21; go_loud ((with_reducible refine (Kin.callK (W := (Kin.wd y9)) (by repeat (first | with_reducible exact Below.refl _ _ | with_reducible exact Nat.le_refl _ | with_reducible refine Kin.below _ ?_ | with_reducible refine Below.alloc ?_ ?_ _ | with_reducible refine Below.drew ?_ | with_reducible refine Kin.le _ ?_ | with_reducible refine le_alloc ?_ _ | with_reducible refine le_drew ?_ | with_reducible refine Below.setCell ?_ ?_ _ | with_reducible exact Nat.le_refl _ | (simp only [World.size_alloc]; omega) | (simp <;> omega))) (same_t _ _ _ (HU.out.below (by repeat (first | with_reducible exact Below.refl _ _ | with_reducible exact Nat.le_refl _ | with_reducible refine Kin.below _ ?_ | with_reducible refine Below.alloc ?_ ?_ _ | with_reducible refine Below.drew ?_ | with_reducible refine Kin.le _ ?_ | with_reducible refine le_alloc ?_ _ | with_reducible refine le_drew ?_ | with_reducible refine Below.setCell ?_ ?_ _ | with_reducible exact Nat.le_refl _ | (simp only [World.size_alloc]; omega) | (simp <;> omega)))) (HRX.out.below (by repeat (first | with_reducible exact Below.refl _ _ | with_reducible exact Nat.le_refl _ | with_reducible refine Kin.below _ ?_ | with_reducible refine Below.alloc ?_ ?_ _ | with_reducible refine Below.drew ?_ | with_reducible refine Kin.le _ ?_ | with_reducible refine le_alloc ?_ _ | with_reducible refine le_drew ?_ | with_reducible refine Below.setCell ?_ ?_ _ | with_reducible exact Nat.le_refl _ | (simp only [World.size_alloc]; omega) | (simp <;> omega)))) hv rfl)).mono ?_); rintro e w' ⟨z, rfl, hz, rfl⟩))
          | (go_at_call 25; go_loud ((with_reducible refine (Kin.callK (W := (Kin.wd y9)) (by repeat (first | with_reducible exact Below.refl _ _ | with_reducible exact Nat.le_refl _ | with_reducible refine Kin.below _ ?_ | with_reducible refine Below.alloc ?_ ?_ _ | with_reducible refine Below.drew ?_ | with_reducible refine Kin.le _ ?_ | with_reducible refine le_alloc ?_ _ | with_reducible refine le_drew ?_ | with_reducible refine Below.setCell ?_ ?_ _ | with_reducible exact Nat.le_refl _ | (simp only [World.size_alloc]; omega) | (simp <;> omega))) (rvalid_is _ _ _ (HAX.out.below (by repeat (first | with_reducible exact Below.refl _ _ | with_reducible exact Nat.le_refl _ | with_reducible refine Kin.below _ ?_ | with_reducible refine Below.alloc ?_ ?_ _ | with_reducible refine Below.drew ?_ | with_reducible refine Kin.le _ ?_ | with_reducible refine le_alloc ?_ _ | with_reducible refine le_drew ?_ | with_reducible refine Below.setCell ?_ ?_ _ | with_reducible exact Nat.le_refl _ | (simp only [World.size_alloc]; omega) | (simp <;> omega)))) (rvalid_bd HV1.out) HV1.out)).mono ?_); rintro e w' ⟨z, rfl, hz, rfl⟩))
          | (go_at_call 25; go_loud ((with_reducible refine (Kin.callK (W := (Kin.wd y9)) (by repeat (first | with_reducible exact Below.refl _ _ | with_reducible exact Nat.le_refl _ | with_reducible refine Kin.below _ ?_ | with_reducible refine Below.alloc ?_ ?_ _ | with_reducible refine Below.drew ?_ | with_reducible refine Kin.le _ ?_ | with_reducible refine le_alloc ?_ _ | with_reducible refine le_drew ?_ | with_reducible refine Below.setCell ?_ ?_ _ | with_reducible exact Nat.le_refl _ | (simp only [World.size_alloc]; omega) | (simp <;> omega))) (rvalid_is _ _ _ (HBX.out.below (by repeat (first | with_reducible exact Below.refl _ _ | with_reducible exact Nat.le_refl _ | with_reducible refine Kin.below _ ?_ | with_reducible refine Below.alloc ?_ ?_ _ | with_reducible refine Below.drew ?_ | with_reducible refine Kin.le _ ?_ | with_reducible refine le_alloc ?_ _ | with_reducible refine le_drew ?_ | with_reducible refine Below.setCell ?_ ?_ _ | with_reducible exact Nat.le_refl _ | (simp only [World.size_alloc]; omega) | (simp <;> omega)))) (rvalid_bd HV2.out) HV2.out)).mono ?_); rintro e w' ⟨z, rfl, hz, rfl⟩))
          | (go_at_call 27; go_loud ((with_reducible refine (Kin.callK (W := (Kin.wd y9)) (by repeat (first | with_reducible exact Below.refl _ _ | with_reducible exact Nat.le_refl _ | with_reducible refine Kin.below _ ?_ | with_reducible refine Below.alloc ?_ ?_ _ | with_reducible refine Below.drew ?_ | with_reducible refine Kin.le _ ?_ | with_reducible refine le_alloc ?_ _ | with_reducible refine le_drew ?_ | with_reducible refine Below.setCell ?_ ?_ _ | with_reducible exact Nat.le_refl _ | (simp only [World.size_alloc]; omega) | (simp <;> omega))) (intersectReg_two _ _ _ _ _ (HAX.out.below (by repeat (first | with_reducible exact Below.refl _ _ | with_reducible exact Nat.le_refl _ | with_reducible refine Kin.below _ ?_ | with_reducible refine Below.alloc ?_ ?_ _ | with_reducible refine Below.drew ?_ | with_reducible refine Kin.le _ ?_ | with_reducible refine le_alloc ?_ _ | with_reducible refine le_drew ?_ | with_reducible refine Below.setCell ?_ ?_ _ | with_reducible exact Nat.le_refl _ | (simp only [World.size_alloc]; omega) | (simp <;> omega)))) (HBX.out.below (by repeat (first | with_reducible exact Below.refl _ _ | with_reducible exact Nat.le_refl _ | with_reducible refine Kin.below _ ?_ | with_reducible refine Below.alloc ?_ ?_ _ | with_reducible refine Below.drew ?_ | with_reducible refine Kin.le _ ?_ | with_reducible refine le_alloc ?_ _ | with_reducible refine le_drew ?_ | with_reducible refine Below.setCell ?_ ?_ _ | with_reducible exact Nat.le_refl _ | (simp only [World.size_alloc]; omega) | (simp <;> omega)))) HV1.out HV2.out)).mono ?_); rintro e w' ⟨zi, ⟨IA, nI, cI, rfl, hi⟩, hzi, rfl⟩; (rw [HD2.out] at hi; have HI := Lib.hid hi; clear hi)))
          | (go_at_call 20; go_loud ((with_reducible refine (Kin.callK (W := (Kin.wd y9)) (by repeat (first | with_reducible exact Below.refl _ _ | with_reducible exact Nat.le_refl _ | with_reducible refine Kin.below _ ?_ | with_reducible refine Below.alloc ?_ ?_ _ | with_reducible refine Below.drew ?_ | with_reducible refine Kin.le _ ?_ | with_reducible refine le_alloc ?_ _ | with_reducible refine le_drew ?_ | with_reducible refine Below.setCell ?_ ?_ _ | with_reducible exact Nat.le_refl _ | (simp only [World.size_alloc]; omega) | (simp <;> omega))) (count_is _ [] _ (HI.out.below (by repeat (first | with_reducible exact Below.refl _ _ | with_reducible exact Nat.le_refl _ | with_reducible refine Kin.below _ ?_ | with_reducible refine Below.alloc ?_ ?_ _ | with_reducible refine Below.drew ?_ | with_reducible refine Kin.le _ ?_ | with_reducible refine le_alloc ?_ _ | with_reducible refine le_drew ?_ | with_reducible refine Below.setCell ?_ ?_ _ | with_reducible exact Nat.le_refl _ | (simp only [World.size_alloc]; omega) | (simp <;> omega)))) (rvalid_bd rvalid_nil) cntR_nil)).mono ?_); rintro e w' ⟨z, rfl, hz, rfl⟩))
          | (go_at_call 15; go_loud ((with_reducible refine (Kin.callK (W := (Kin.wd y9)) (by repeat (first | with_reducible exact Below.refl _ _ | with_reducible exact Nat.le_refl _ | with_reducible refine Kin.below _ ?_ | with_reducible refine Below.alloc ?_ ?_ _ | with_reducible refine Below.drew ?_ | with_reducible refine Kin.le _ ?_ | with_reducible refine le_alloc ?_ _ | with_reducible refine le_drew ?_ | with_reducible refine Below.setCell ?_ ?_ _ | with_reducible exact Nat.le_refl _ | (simp only [World.size_alloc]; omega) | (simp <;> omega))) (awake28_any _)).mono ?_); rintro e w' ⟨z, rfl, hz, rfl⟩)))
        go_wp2
        go_ret
        exact ⟨rfl, (by repeat (first | with_reducible exact Below.refl _ _ | with_reducible exact Nat.le_refl _ | with_reducible refine Kin.below _ ?_ | with_reducible refine Below.alloc ?_ ?_ _ | with_reducible refine Below.drew ?_ | with_reducible refine Kin.le _ ?_ | with_reducible refine le_alloc ?_ _ | with_reducible refine le_drew ?_ | with_reducible refine Below.setCell ?_ ?_ _ | with_reducible exact Nat.le_refl _ | (simp only [World.size_alloc]; omega) | (simp <;> omega)))⟩
    · clear hop
      go_enter Try.func7, Try.ntmps7
      have hi2 : i < 0 ∨ (rs.length : Int) ≤ i := by omega
      rcases hi2 with hi2 | hi2
      all_goals
        go_wp2_with (first
          | (go_at_call 14; go_loud ((with_reducible refine (Kin.callK (W := W.alloc (.cells #[.slice L rs.length capL, .int .i64 i, .int .i64 t, .int .i64 b] 24)) (by repeat (first | with_reducible exact Below.refl _ _ | with_reducible exact Nat.le_refl _ | with_reducible refine Kin.below _ ?_ | with_reducible refine Below.alloc ?_ ?_ _ | with_reducible refine Below.drew ?_ | with_reducible refine Kin.le _ ?_ | with_reducible refine le_alloc ?_ _ | with_reducible refine le_drew ?_ | with_reducible refine Below.setCell ?_ ?_ _ | with_reducible exact Nat.le_refl _ | (simp only [World.size_alloc]; omega) | (simp <;> omega))) (small28_is _ rs _ (HL.out.below (by repeat (first | with_reducible exact Below.refl _ _ | with_reducible exact Nat.le_refl _ | with_reducible refine Kin.below _ ?_ | with_reducible refine Below.alloc ?_ ?_ _ | with_reducible refine Below.drew ?_ | with_reducible refine Kin.le _ ?_ | with_reducible refine le_alloc ?_ _ | with_reducible refine le_drew ?_ | with_reducible refine Below.setCell ?_ ?_ _ | with_reducible exact Nat.le_refl _ | (simp only [World.size_alloc]; omega) | (simp <;> omega)))) hsm)).mono ?_); rintro e w' ⟨z, rfl, hz, rfl⟩))
          | (go_at_call 15; go_loud ((with_reducible refine (Kin.callK (W := W) (by repeat (first | with_reducible exact Below.refl _ _ | with_reducible exact Nat.le_refl _ | with_reducible refine Kin.below _ ?_ | with_reducible refine Below.alloc ?_ ?_ _ | with_reducible refine Below.drew ?_ | with_reducible refine Kin.le _ ?_ | with_reducible refine le_alloc ?_ _ | with_reducible refine le_drew ?_ | with_reducible refine Below.setCell ?_ ?_ _ | with_reducible exact Nat.le_refl _ | (simp only [World.size_alloc]; omega) | (simp <;> omega))) (awake28_any _)).mono ?_); rintro e w' ⟨z, rfl, hz, rfl⟩)))
        go_ret
        exact ⟨rfl, (by repeat (first | with_reducible exact Below.refl _ _ | with_reducible exact Nat.le_refl _ | with_reducible refine Kin.below _ ?_ | with_reducible refine Below.alloc ?_ ?_ _ | with_reducible refine Below.drew ?_ | with_reducible refine Kin.le _ ?_ | with_reducible refine le_alloc ?_ _ | with_reducible refine le_drew ?_ | with_reducible refine Below.setCell ?_ ?_ _ | with_reducible exact Nat.le_refl _ | (simp only [World.size_alloc]; omega) | (simp <;> omega)))⟩
set_option maxRecDepth 100000 in
theorem skinDivides_lifted (os : Os) (started : os.Started) (H : Type) (enc : TypeId × Value → H) :
    ReturnsInHanded {} Try.checked os 7 .any (Rows.skinDividesSpec.pre6 enc Try.prog Try.f7 Rows.skinDividesRow.domain false) (Rows.skinDividesSpec.post enc Try.prog Try.f7 false true false false) := by
  refine returnsInHanded_of_change (C := Try.checked) own started (by kernel_rfl) Try.func7
    (ChangeSpec.witness6 (enc := enc) (C := Try.checked) false ⟨#[], #[.agg #[.slice none 0 0, .int .i64 0, .int .i64 0, .int .i64 0]], []⟩ 8 (by kernel_rfl) (by kernel_rfl) (by kernel_rfl) (by kernel_rfl)) ?_
  intro W base args ds gs before hval0 hW hcnd _
  have hval : ∀ (j : Nat) t v, Try.f7.params[j]? = some t → args[j]? = some v → Value.okWide Try.prog W .any base t v := hval0
  have hW' := hW
  obtain ⟨p, q, hA0, hV, rfl, hfz, hnd⟩ := hW
  have hA : DataW.TrodAll enc Try.prog W 0 (fun _ => true) true Try.f7.params.toList args.toList ds p := hA0
  rw [Try.params7] at hA hval
  have hAA := hA
  obtain ⟨v0, vs0, d0, ds0, p0, q0, hargs, rfl, rfl, h0, r0⟩ := trodAll_cons hA
  obtain ⟨rfl, rfl, rfl⟩ := trodAll_nil r0
  obtain rfl : args = #[v0] := by cases args; simp_all
  obtain ⟨rfl, rfl⟩ := trodVars_none hV
  have o0 := open_ask (hval 0 24 v0 rfl rfl) h0
  have hlt : ∀ x ∈ p0 ++ [], x.block < W.heap.size := fun x hx => hW'.lt x (by simpa using hx)
  refine (divides_walk W _ o0).mono fun e W' ⟨he, bel⟩ => ?_
  subst he
  exact ⟨_, rfl, _, _, _, [], _, [], hW', trodAll_mk1 (shut_bool Try.underlying4 _), below_trodAll laidOut bel _ _ _ _ (by
    intro t ht
    have hcl : ([24] : List TypeId).all (fun t => Try.prog.readableRec t && decide (t < Try.prog.types.size)) = true := by kernel_rfl
    have := List.all_eq_true.1 hcl t ht
    simpa using this) hlt hAA, rfl, bel.frame _, fun h => by cases h⟩
/-- SkinDivides: for every input the call returns true, and the arguments read behind it as before. No condition. -/
theorem skinDivides_holds : Rows.SkinDividesSaid :=
  OpenClaim.holds_of_wide 7 Try.f7 rfl rfl rfl rfl rfl rfl rfl ⟨rfl, rfl, rfl, rfl, rfl⟩ rfl rfl rfl rfl rfl (by kernel_rfl) Try.func7 (by kernel_rfl)
    (of_decide_eq_true (by kernel_rfl)) (by unfold Func.isWrapper; rw [if_neg (of_decide_eq_false (by kernel_rfl))]; exact ⟨rfl, rfl⟩)
    (fun os started H enc _ => skinDivides_lifted os started H enc)

end Go.Proofs.Ytfoedkdmckhihaa

/- SupportCells: a cell overhangs exactly if no cell of the layer below is within reach: for every input the law returns true. No condition. -/
import Derived.Test.YtlhmopndnohnhaaSupMath
namespace Go.Proofs.Ytlhmopndnohnhaa
set_option linter.unusedSimpArgs false
set_option linter.unusedVariables false
open Go.ChangeShapes Go.WideShapes Go.ChangeAt Go.RowKit Go.Joins Runs Reg
attribute [local go_sem] Kin.cell Kin.frozen Kin.lt0 Kin.lt1 Kin.lt2 Kin.lt3 run_mkf
def IsU8n (v : Value) : Prop := ∃ n : Int, v = .int .u8 n ∧ 0 ≤ n ∧ n ≤ 255
set_option maxRecDepth 100000 in
theorem open_u8n {H : Type} {enc : TypeId × Value → H} {W : World} {r : Reach} {b0 base : Nat} {spare : Nat → Bool} {held : Bool} {v : Value} {d : DataW H} {ps : List MemPlace} (hv : Value.okWide Try.prog W r b0 5 v) (h : DataW.Trod enc Try.prog W base spare held 5 v d ps) : IsU8n v := by
  obtain ⟨n, rfl, _, _, wf⟩ := open_int Try.underlying5 hv h
  exact ⟨n, rfl, bounds_u8 wf⟩
/-- whether one of n cells of the row y from x on is in a region -/
def nearX (b : List Reg.Row) (y x : Int) (n : Nat) : Bool := (List.range n).any fun i => memC b (x + (i : Int)) y
def nearY (b : List Reg.Row) (x y k : Int) (n : Nat) : Bool := (List.range n).any fun j => nearX b (y - k + (j : Int)) (x - k) (2 * k + 1).toNat
theorem nearX_succ (b : List Reg.Row) (y x : Int) (n : Nat) : nearX b y x (n + 1) = (nearX b y x n || memC b (x + (n : Int)) y) := by simp [nearX, List.range_succ]
theorem nearY_succ (b : List Reg.Row) (x y k : Int) (n : Nat) : nearY b x y k (n + 1) = (nearY b x y k n || nearX b (y - k + (n : Int)) (x - k) (2 * k + 1).toNat) := by simp [nearY, List.range_succ]
theorem near_dil {b : List Reg.Row} {k : Int} (h : dilE b k = 0) (x y : Int) : nearY b x y k (2 * k + 1).toNat = memC (dilR b k) x y := by
  have hk := reach_iff.1 (dilE_iff.1 h).1
  rw [Bool.eq_iff_iff, dilR_mem h]
  unfold nearY nearX
  simp only [List.any_eq_true, List.mem_range]
  constructor
  · rintro ⟨j, hj, i, hi, hm⟩
    exact ⟨_, _, by omega, by omega, by omega, by omega, hm⟩
  · rintro ⟨j, i, h1, h2, h3, h4, hm⟩
    refine ⟨(j - (y - k)).toNat, by omega, (i - (x - k)).toNat, by omega, ?_⟩
    rw [show x - k + (((i - (x - k)).toNat : Nat) : Int) = i by omega, show y - k + (((j - (y - k)).toNat : Nat) : Int) = j by omega]
    exact hm
theorem over_cell {r b : List Reg.Row} {k : Int} (hr : rvalid r = true) (h : dilE b k = 0) {c : Int × Int} (hc : c ∈ cellsR r) {d : Bool} (hd : nearY b c.1 c.2 k (2 * k + 1).toNat = d) : (rvalid (ovR r b k) && memC (ovR r b k) c.1 c.2) = !d := by
  rw [ovR_valid, Bool.true_and, ← hd, near_dil h]
  have hm := (mem_cellsR.1 hc).2
  have := ovR_mem hr h c.1 c.2
  cases h1 : memC (dilR b k) c.1 c.2 <;> cases h2 : memC (ovR r b k) c.1 c.2 <;> simp_all
theorem ovE_three (r b : List Reg.Row) (k : Int) : (ovE r b k = 0 ∧ rvalid r = true ∧ dilE b k = 0) ∨ ovE r b k = 1 ∨ ovE r b k = 8 := by
  unfold ovE
  cases hv : rvalid r
  · exact .inr (.inl rfl)
  · rcases dilE_three b k with h | h | h
    · exact .inl ⟨by simpa using h, rfl, h⟩
    · exact .inr (.inl (by simpa using h))
    · exact .inr (.inr (by simpa using h))
theorem over_within {r b : List Reg.Row} {k : Int} (hr : rvalid r = true) (h : dilE b k = 0) : withinR (ovR r b k) r = true :=
  (within_iff (ovR_valid _ _ _) hr).2 fun x y hx => ((ovR_mem hr h x y).1 hx).1
set_option maxRecDepth 100000 in
set_option maxHeartbeats 16000000 in
theorem cells_walk (W : World) (v : Value) (h : IsReg W v) (u : Value) (h2 : IsReg W u) (x : Value) (hx : IsU8n x) : Calls Try.prog 7 #[v, u, x] W fun e W' => e = .returned (.bool true) ∧ Below W.heap.size W W' := by
  obtain ⟨r, h⟩ := h
  obtain ⟨b, h2⟩ := h2
  obtain ⟨p, rfl, hp1, hp2⟩ := hx
  have H := Lib.hid h
  have H2 := Lib.hid h2
  obtain ⟨A, capA, rfl⟩ := h.slice_
  obtain ⟨B, capB, rfl⟩ := h2.slice_
  clear h h2
  obtain ⟨k, hk⟩ : ∃ k, p % 6 = k := ⟨_, rfl⟩
  have k0 : 0 ≤ k := by omega
  have k5 : k ≤ 5 := by omega
  have hqt : Int.tmod p 6 = k := by rw [← hk, Int.tmod_eq_emod_of_nonneg hp1]
  have hqw : IntKind.u8.wrap k = k := IntWalk.u8_in _ (by omega)
  have hqw2 : IntKind.i64.wrap k = k := IntWalk.i64_in _ (by omega)
  clear hk
  cases s1 : smallR r
  · go_enter Try.func7, Try.ntmps7
    go_wp2_with (first | (go_at_call 9; (with_reducible refine (Kin.callK (W := (W.alloc (.cells #[.slice A r.length capA] 24)).alloc (.cells #[.slice B b.length capB] 24)) (by repeat (first | with_reducible exact Below.refl _ _ | with_reducible exact Nat.le_refl _ | with_reducible refine Kin.below _ ?_ | with_reducible refine Below.alloc ?_ ?_ _ | with_reducible refine Below.drew ?_ | with_reducible refine Kin.le _ ?_ | with_reducible refine le_alloc ?_ _ | with_reducible refine le_drew ?_ | with_reducible refine Below.setCell ?_ ?_ _ | with_reducible exact Nat.le_refl _ | (simp only [World.size_alloc]; omega) | (simp <;> omega))) (small18_is _ r _ (H.out.below (by repeat (first | with_reducible exact Below.refl _ _ | with_reducible exact Nat.le_refl _ | with_reducible refine Kin.below _ ?_ | with_reducible refine Below.alloc ?_ ?_ _ | with_reducible refine Below.drew ?_ | with_reducible refine Kin.le _ ?_ | with_reducible refine le_alloc ?_ _ | with_reducible refine le_drew ?_ | with_reducible refine Below.setCell ?_ ?_ _ | with_reducible exact Nat.le_refl _ | (simp only [World.size_alloc]; omega) | (simp <;> omega)))) s1)).mono ?_); rintro e w' ⟨z, rfl, hz, rfl⟩) | (go_at_call 10; (with_reducible refine (Kin.callK (W := (W.alloc (.cells #[.slice A r.length capA] 24)).alloc (.cells #[.slice B b.length capB] 24)) (by repeat (first | with_reducible exact Below.refl _ _ | with_reducible exact Nat.le_refl _ | with_reducible refine Kin.below _ ?_ | with_reducible refine Below.alloc ?_ ?_ _ | with_reducible refine Below.drew ?_ | with_reducible refine Kin.le _ ?_ | with_reducible refine le_alloc ?_ _ | with_reducible refine le_drew ?_ | with_reducible refine Below.setCell ?_ ?_ _ | with_reducible exact Nat.le_refl _ | (simp only [World.size_alloc]; omega) | (simp <;> omega))) (awake31_any _)).mono ?_); rintro e w' ⟨z, rfl, hz, rfl⟩))
    go_ret
    exact ⟨rfl, (by repeat (first | with_reducible exact Below.refl _ _ | with_reducible exact Nat.le_refl _ | with_reducible refine Kin.below _ ?_ | with_reducible refine Below.alloc ?_ ?_ _ | with_reducible refine Below.drew ?_ | with_reducible refine Kin.le _ ?_ | with_reducible refine le_alloc ?_ _ | with_reducible refine le_drew ?_ | with_reducible refine Below.setCell ?_ ?_ _ | with_reducible exact Nat.le_refl _ | (simp only [World.size_alloc]; omega) | (simp <;> omega)))⟩
  cases s2 : smallR b
  · go_enter Try.func7, Try.ntmps7
    go_wp2_with (first | (go_at_call 9; (with_reducible refine (Kin.callK (W := (W.alloc (.cells #[.slice A r.length capA] 24)).alloc (.cells #[.slice B b.length capB] 24)) (by repeat (first | with_reducible exact Below.refl _ _ | with_reducible exact Nat.le_refl _ | with_reducible refine Kin.below _ ?_ | with_reducible refine Below.alloc ?_ ?_ _ | with_reducible refine Below.drew ?_ | with_reducible refine Kin.le _ ?_ | with_reducible refine le_alloc ?_ _ | with_reducible refine le_drew ?_ | with_reducible refine Below.setCell ?_ ?_ _ | with_reducible exact Nat.le_refl _ | (simp only [World.size_alloc]; omega) | (simp <;> omega))) (small18_is _ r _ (H.out.below (by repeat (first | with_reducible exact Below.refl _ _ | with_reducible exact Nat.le_refl _ | with_reducible refine Kin.below _ ?_ | with_reducible refine Below.alloc ?_ ?_ _ | with_reducible refine Below.drew ?_ | with_reducible refine Kin.le _ ?_ | with_reducible refine le_alloc ?_ _ | with_reducible refine le_drew ?_ | with_reducible refine Below.setCell ?_ ?_ _ | with_reducible exact Nat.le_refl _ | (simp only [World.size_alloc]; omega) | (simp <;> omega)))) s1)).mono ?_); rintro e w' ⟨z, rfl, hz, rfl⟩) | (go_at_call 9; (with_reducible refine (Kin.callK (W := (W.alloc (.cells #[.slice A r.length capA] 24)).alloc (.cells #[.slice B b.length capB] 24)) (by repeat (first | with_reducible exact Below.refl _ _ | with_reducible exact Nat.le_refl _ | with_reducible refine Kin.below _ ?_ | with_reducible refine Below.alloc ?_ ?_ _ | with_reducible refine Below.drew ?_ | with_reducible refine Kin.le _ ?_ | with_reducible refine le_alloc ?_ _ | with_reducible refine le_drew ?_ | with_reducible refine Below.setCell ?_ ?_ _ | with_reducible exact Nat.le_refl _ | (simp only [World.size_alloc]; omega) | (simp <;> omega))) (small18_is _ b _ (H2.out.below (by repeat (first | with_reducible exact Below.refl _ _ | with_reducible exact Nat.le_refl _ | with_reducible refine Kin.below _ ?_ | with_reducible refine Below.alloc ?_ ?_ _ | with_reducible refine Below.drew ?_ | with_reducible refine Kin.le _ ?_ | with_reducible refine le_alloc ?_ _ | with_reducible refine le_drew ?_ | with_reducible refine Below.setCell ?_ ?_ _ | with_reducible exact Nat.le_refl _ | (simp only [World.size_alloc]; omega) | (simp <;> omega)))) s2)).mono ?_); rintro e w' ⟨z, rfl, hz, rfl⟩) | (go_at_call 10; (with_reducible refine (Kin.callK (W := (W.alloc (.cells #[.slice A r.length capA] 24)).alloc (.cells #[.slice B b.length capB] 24)) (by repeat (first | with_reducible exact Below.refl _ _ | with_reducible exact Nat.le_refl _ | with_reducible refine Kin.below _ ?_ | with_reducible refine Below.alloc ?_ ?_ _ | with_reducible refine Below.drew ?_ | with_reducible refine Kin.le _ ?_ | with_reducible refine le_alloc ?_ _ | with_reducible refine le_drew ?_ | with_reducible refine Below.setCell ?_ ?_ _ | with_reducible exact Nat.le_refl _ | (simp only [World.size_alloc]; omega) | (simp <;> omega))) (awake31_any _)).mono ?_); rintro e w' ⟨z, rfl, hz, rfl⟩))
    go_ret
    exact ⟨rfl, (by repeat (first | with_reducible exact Below.refl _ _ | with_reducible exact Nat.le_refl _ | with_reducible refine Kin.below _ ?_ | with_reducible refine Below.alloc ?_ ?_ _ | with_reducible refine Below.drew ?_ | with_reducible refine Kin.le _ ?_ | with_reducible refine le_alloc ?_ _ | with_reducible refine le_drew ?_ | with_reducible refine Below.setCell ?_ ?_ _ | with_reducible exact Nat.le_refl _ | (simp only [World.size_alloc]; omega) | (simp <;> omega)))⟩
  have D1 := Lib.hid (smallR_bd s1)
  have D2 := Lib.hid (smallR_bd s2)
  rcases ovE_three r b k with ⟨hE, hvr, hdE⟩ | hE | hE
  · have HE := Lib.hid hE
    have HVR := Lib.hid hvr
    have HDE := Lib.hid hdE
    have HWI := Lib.hid (over_within hvr hdE)
    have hvb := (dilE_iff.1 hdE).2.1
    have HVB := Lib.hid hvb
    obtain ⟨cl, hcl⟩ : ∃ cl, cl = cellsR r := ⟨_, rfl⟩
    have HCL := Lib.hid hcl
    have hcll : (cl.length : Int) ≤ 67108864 := by rw [hcl, cellsR_len]; exact (cntR_bd r).2
    clear hE hvr hdE hvb hcl
    go_enter Try.func7, Try.ntmps7
    go_wp2_with (first
      | (go_at_call 9; (with_reducible refine (Kin.callK (W := (W.alloc (.cells #[.slice A r.length capA] 24)).alloc (.cells #[.slice B b.length capB] 24)) (by repeat (first | with_reducible exact Below.refl _ _ | with_reducible exact Nat.le_refl _ | with_reducible refine Kin.below _ ?_ | with_reducible refine Below.alloc ?_ ?_ _ | with_reducible refine Below.drew ?_ | with_reducible refine Kin.le _ ?_ | with_reducible refine le_alloc ?_ _ | with_reducible refine le_drew ?_ | with_reducible refine Below.setCell ?_ ?_ _ | with_reducible exact Nat.le_refl _ | (simp only [World.size_alloc]; omega) | (simp <;> omega))) (small18_is _ r _ (H.out.below (by repeat (first | with_reducible exact Below.refl _ _ | with_reducible exact Nat.le_refl _ | with_reducible refine Kin.below _ ?_ | with_reducible refine Below.alloc ?_ ?_ _ | with_reducible refine Below.drew ?_ | with_reducible refine Kin.le _ ?_ | with_reducible refine le_alloc ?_ _ | with_reducible refine le_drew ?_ | with_reducible refine Below.setCell ?_ ?_ _ | with_reducible exact Nat.le_refl _ | (simp only [World.size_alloc]; omega) | (simp <;> omega)))) s1)).mono ?_); rintro e w' ⟨z, rfl, hz, rfl⟩)
      | (go_at_call 9; (with_reducible refine (Kin.callK (W := (W.alloc (.cells #[.slice A r.length capA] 24)).alloc (.cells #[.slice B b.length capB] 24)) (by repeat (first | with_reducible exact Below.refl _ _ | with_reducible exact Nat.le_refl _ | with_reducible refine Kin.below _ ?_ | with_reducible refine Below.alloc ?_ ?_ _ | with_reducible refine Below.drew ?_ | with_reducible refine Kin.le _ ?_ | with_reducible refine le_alloc ?_ _ | with_reducible refine le_drew ?_ | with_reducible refine Below.setCell ?_ ?_ _ | with_reducible exact Nat.le_refl _ | (simp only [World.size_alloc]; omega) | (simp <;> omega))) (small18_is _ b _ (H2.out.below (by repeat (first | with_reducible exact Below.refl _ _ | with_reducible exact Nat.le_refl _ | with_reducible refine Kin.below _ ?_ | with_reducible refine Below.alloc ?_ ?_ _ | with_reducible refine Below.drew ?_ | with_reducible refine Kin.le _ ?_ | with_reducible refine le_alloc ?_ _ | with_reducible refine le_drew ?_ | with_reducible refine Below.setCell ?_ ?_ _ | with_reducible exact Nat.le_refl _ | (simp only [World.size_alloc]; omega) | (simp <;> omega)))) s2)).mono ?_); rintro e w' ⟨z, rfl, hz, rfl⟩; skip)
      | (go_at_call 11; (with_reducible refine (Kin.callK (W := (W.alloc (.cells #[.slice A r.length capA] 24)).alloc (.cells #[.slice B b.length capB] 24)) (by repeat (first | with_reducible exact Below.refl _ _ | with_reducible exact Nat.le_refl _ | with_reducible refine Kin.below _ ?_ | with_reducible refine Below.alloc ?_ ?_ _ | with_reducible refine Below.drew ?_ | with_reducible refine Kin.le _ ?_ | with_reducible refine le_alloc ?_ _ | with_reducible refine le_drew ?_ | with_reducible refine Below.setCell ?_ ?_ _ | with_reducible exact Nat.le_refl _ | (simp only [World.size_alloc]; omega) | (simp <;> omega))) (ov_is _ _ r b k _ (H.out.below (by repeat (first | with_reducible exact Below.refl _ _ | with_reducible exact Nat.le_refl _ | with_reducible refine Kin.below _ ?_ | with_reducible refine Below.alloc ?_ ?_ _ | with_reducible refine Below.drew ?_ | with_reducible refine Kin.le _ ?_ | with_reducible refine le_alloc ?_ _ | with_reducible refine le_drew ?_ | with_reducible refine Below.setCell ?_ ?_ _ | with_reducible exact Nat.le_refl _ | (simp only [World.size_alloc]; omega) | (simp <;> omega)))) D1.out (H2.out.below (by repeat (first | with_reducible exact Below.refl _ _ | with_reducible exact Nat.le_refl _ | with_reducible refine Kin.below _ ?_ | with_reducible refine Below.alloc ?_ ?_ _ | with_reducible refine Below.drew ?_ | with_reducible refine Kin.le _ ?_ | with_reducible refine le_alloc ?_ _ | with_reducible refine le_drew ?_ | with_reducible refine Below.setCell ?_ ?_ _ | with_reducible exact Nat.le_refl _ | (simp only [World.size_alloc]; omega) | (simp <;> omega)))) D2.out HE.out)).mono ?_); rintro e w' ⟨z1, ⟨OA, on, oc, rfl, ho⟩, hz1, rfl⟩; (have HO := Lib.hid ho; have x1 := z1.boxes2.1.cell 0; have x2 := z1.boxes2.2.cell 0; simp at x1 x2; have y1 := z1.boxes2.1.lt; have y2 := z1.boxes2.2.lt; clear ho))
      | (go_at_call 21; (with_reducible refine (Kin.callK (W := (Kin.wd z1).alloc (.cells #[.slice OA on oc] 24)) (by repeat (first | with_reducible exact Below.refl _ _ | with_reducible exact Nat.le_refl _ | with_reducible refine Kin.below _ ?_ | with_reducible refine Below.alloc ?_ ?_ _ | with_reducible refine Below.drew ?_ | with_reducible refine Kin.le _ ?_ | with_reducible refine le_alloc ?_ _ | with_reducible refine le_drew ?_ | with_reducible refine Below.setCell ?_ ?_ _ | with_reducible exact Nat.le_refl _ | (simp only [World.size_alloc]; omega) | (simp <;> omega))) (cells18_any _ r _ (H.out.below (by repeat (first | with_reducible exact Below.refl _ _ | with_reducible exact Nat.le_refl _ | with_reducible refine Kin.below _ ?_ | with_reducible refine Below.alloc ?_ ?_ _ | with_reducible refine Below.drew ?_ | with_reducible refine Kin.le _ ?_ | with_reducible refine le_alloc ?_ _ | with_reducible refine le_drew ?_ | with_reducible refine Below.setCell ?_ ?_ _ | with_reducible exact Nat.le_refl _ | (simp only [World.size_alloc]; omega) | (simp <;> omega)))) D1.out)).mono ?_); rintro e w' ⟨z2, ⟨lv, rfl, hl⟩, hz2, rfl⟩; (have hlx := hl; rw [← HCL.out] at hlx; clear hl)))
    have hzz : Below z1.1.heap.size z1.1 z2.1 := (by repeat (first | with_reducible exact Below.refl _ _ | with_reducible exact Nat.le_refl _ | with_reducible refine Kin.below _ ?_ | with_reducible refine Below.alloc ?_ ?_ _ | with_reducible refine Below.drew ?_ | with_reducible refine Kin.le _ ?_ | with_reducible refine le_alloc ?_ _ | with_reducible refine le_drew ?_ | with_reducible refine Below.setCell ?_ ?_ _ | with_reducible exact Nat.le_refl _ | (simp only [World.size_alloc]; omega) | (simp <;> omega)))
    have x1' : z2.1.cell? ⟨W.heap.size, 0, none⟩ = some (.slice A r.length capA) := (hzz.cell (p := ⟨_, 0, none⟩) y1).trans x1
    have x2' : z2.1.cell? ⟨W.heap.size + 1, 0, none⟩ = some (.slice B b.length capB) := (hzz.cell (p := ⟨_, 0, none⟩) y2).trans x2
    have b1 := (Blk.new z1.1 24 #[.slice OA on oc]).below z2.2
    have x3' : z2.1.cell? ⟨z1.1.heap.size, 0, none⟩ = some (.slice OA on oc) := b1.cell 0
    have y3' := b1.lt
    have y1' := Nat.lt_of_lt_of_le y1 hzz.size
    have y2' := Nat.lt_of_lt_of_le y2 hzz.size
    have HO2 := Lib.hid (HO.out.below hzz)
    have HR2 := Lib.hid (H.out.below (show Below W.heap.size W z2.1 from (by repeat (first | with_reducible exact Below.refl _ _ | with_reducible exact Nat.le_refl _ | with_reducible refine Kin.below _ ?_ | with_reducible refine Below.alloc ?_ ?_ _ | with_reducible refine Below.drew ?_ | with_reducible refine Kin.le _ ?_ | with_reducible refine le_alloc ?_ _ | with_reducible refine le_drew ?_ | with_reducible refine Below.setCell ?_ ?_ _ | with_reducible exact Nat.le_refl _ | (simp only [World.size_alloc]; omega) | (simp <;> omega)))))
    have HB2 := Lib.hid (H2.out.below (show Below W.heap.size W z2.1 from (by repeat (first | with_reducible exact Below.refl _ _ | with_reducible exact Nat.le_refl _ | with_reducible refine Kin.below _ ?_ | with_reducible refine Below.alloc ?_ ?_ _ | with_reducible refine Below.drew ?_ | with_reducible refine Kin.le _ ?_ | with_reducible refine le_alloc ?_ _ | with_reducible refine le_drew ?_ | with_reducible refine Below.setCell ?_ ?_ _ | with_reducible exact Nat.le_refl _ | (simp only [World.size_alloc]; omega) | (simp <;> omega)))))
    have HWZ : Below W.heap.size W z2.1 := (by repeat (first | with_reducible exact Below.refl _ _ | with_reducible exact Nat.le_refl _ | with_reducible refine Kin.below _ ?_ | with_reducible refine Below.alloc ?_ ?_ _ | with_reducible refine Below.drew ?_ | with_reducible refine Kin.le _ ?_ | with_reducible refine le_alloc ?_ _ | with_reducible refine le_drew ?_ | with_reducible refine Below.setCell ?_ ?_ _ | with_reducible exact Nat.le_refl _ | (simp only [World.size_alloc]; omega) | (simp <;> omega)))
    clear b1 x1 x2 hzz
    obtain ⟨C, capC, rfl, hcapC, hopC⟩ := hlx.open_
    have HC := Lib.hid hopC
    have HLC := Lib.hid hlx
    clear hopC hlx
    go_loopw [11] (fun i wr => ∃ j : Nat, j ≤ cl.length ∧ i = .int .i64 j ∧ ∃ z : Kin z2.1, z.1 = wr) (fun i _ => cl.length - (intOf i).toNat)
    case atStart => exact ⟨0, Nat.zero_le _, rfl, ⟨_, Below.refl _ _⟩, rfl⟩
    case round =>
      obtain ⟨j, hj, rfl, z3, rfl⟩ := hrel
      by_cases hlt : j < cl.length
      · obtain ⟨c, hc⟩ : ∃ el_, (cl)[j]? = some el_ := ⟨_, List.getElem?_eq_getElem (by first | exact hlt | omega)⟩
        obtain ⟨bC, offC, rfl, hbC, hcC⟩ := HC.out (j) _ hc
        have c_0 : z2.1.cell? ⟨bC, offC + j * 2, none⟩ = some (.int .i64 c.1) := by exact hcC (j) _ hc 0 _ rfl
        have c_1 : z2.1.cell? ⟨bC, offC + j * 2 + 1, none⟩ = some (.int .i64 c.2) := by exact hcC (j) _ hc 1 _ rfl
        have hbC2 : bC < z2.1.heap.size + 1 := by omega
        have HCc := Lib.hid hcC
        have Hc := Lib.hid hc
        clear hc hcC
        have hcm : c ∈ cellsR r := by rw [← HCL.out]; exact List.mem_of_getElem? Hc.out
        have HCM := Lib.hid hcm
        have hcb : -4096 ≤ c.1 ∧ c.1 < 4096 ∧ -4096 ≤ c.2 ∧ c.2 < 4096 := by
          obtain ⟨w, hw, h1, h2⟩ := memC_iff.1 (mem_cellsR.1 hcm).2
          have h3 := (rvalid_iff.1 HVR.out).1 w hw
          have h4 := sepIn_mem (fine_sepIn.1 h3.2).1 h2
          have h5 := h3.1
          unfold okC at h5
          rw [decide_eq_true_eq] at h5
          omega
        have hwj : IntKind.i64.wrap ((j : Int) + 1) = (j : Int) + 1 := IntWalk.i64_in _ (by omega)
        have hwa : IntKind.i64.wrap (c.2 - k) = c.2 - k := IntWalk.i64_in _ (by omega)
        have hwb : IntKind.i64.wrap (c.2 + k) = c.2 + k := IntWalk.i64_in _ (by omega)
        have hwc : IntKind.i64.wrap (c.1 - k) = c.1 - k := IntWalk.i64_in _ (by omega)
        have hwd : IntKind.i64.wrap (c.1 + k) = c.1 + k := IntWalk.i64_in _ (by omega)
        clear hcm
        go_wp2
        go_loopw [12, 13] (fun d y wr => ∃ n : Nat, n ≤ (2 * k + 1).toNat ∧ y = .int .i64 (c.2 - k + n) ∧ d = .bool (nearY b c.1 c.2 k n) ∧ ∃ z : Kin z2.1, z.1 = wr) (fun _ y _ => (c.2 + k + 1 - intOf y).toNat)
        case atStart => exact ⟨0, Nat.zero_le _, by simp, by simp [nearY], z3, rfl⟩
        case round =>
          obtain ⟨n, hn, rfl, rfl, z4, rfl⟩ := hrel
          by_cases hlt2 : c.2 - k + (n : Int) ≤ c.2 + k
          · have hwn : IntKind.i64.wrap (c.2 - k + (n : Int) + 1) = c.2 - k + (n : Int) + 1 := IntWalk.i64_in _ (by omega)
            go_wp2
            go_loopw [12, 14] (fun d x wr => ∃ n2 : Nat, n2 ≤ (2 * k + 1).toNat ∧ x = .int .i64 (c.1 - k + n2) ∧ d = .bool (nearY b c.1 c.2 k n || nearX b (c.2 - k + (n : Int)) (c.1 - k) n2) ∧ ∃ z : Kin z2.1, z.1 = wr) (fun _ x _ => (c.1 + k + 1 - intOf x).toNat)
            case atStart => exact ⟨0, Nat.zero_le _, by simp, by simp [nearX], z4, rfl⟩
            case round =>
              obtain ⟨n2, hn2, rfl, rfl, z5, rfl⟩ := hrel
              by_cases hlt3 : c.1 - k + (n2 : Int) ≤ c.1 + k
              · have hwm : IntKind.i64.wrap (c.1 - k + (n2 : Int) + 1) = c.1 - k + (n2 : Int) + 1 := IntWalk.i64_in _ (by omega)
                cases hd : (nearY b c.1 c.2 k n || nearX b (c.2 - k + (n : Int)) (c.1 - k) n2)
                · cases hb3 : memC b (c.1 - k + (n2 : Int)) (c.2 - k + (n : Int))
                  all_goals
                    have HB3 := Lib.hid (show (rvalid b && memC b (c.1 - k + (n2 : Int)) (c.2 - k + (n : Int))) = _ from by rw [HVB.out, Bool.true_and, hb3])
                    have HND := Lib.hid (show (nearY b c.1 c.2 k n || nearX b (c.2 - k + (n : Int)) (c.1 - k) (n2 + 1)) = _ from by rw [nearX_succ, ← Bool.or_assoc, hd, hb3])
                    clear hd hb3
                    go_wp2_with (go_at_call 22; (with_reducible refine (Kin.callK (W := (Kin.wd z2)) (by repeat (first | with_reducible exact Below.refl _ _ | with_reducible exact Nat.le_refl _ | with_reducible refine Kin.below _ ?_ | with_reducible refine Below.alloc ?_ ?_ _ | with_reducible refine Below.drew ?_ | with_reducible refine Kin.le _ ?_ | with_reducible refine le_alloc ?_ _ | with_reducible refine le_drew ?_ | with_reducible refine Below.setCell ?_ ?_ _ | with_reducible exact Nat.le_refl _ | (simp only [World.size_alloc]; omega) | (simp <;> omega))) (contains18_is _ b (c.1 - k + (n2 : Int)) (c.2 - k + (n : Int)) _ (HB2.out.below (by repeat (first | with_reducible exact Below.refl _ _ | with_reducible exact Nat.le_refl _ | with_reducible refine Kin.below _ ?_ | with_reducible refine Below.alloc ?_ ?_ _ | with_reducible refine Below.drew ?_ | with_reducible refine Kin.le _ ?_ | with_reducible refine le_alloc ?_ _ | with_reducible refine le_drew ?_ | with_reducible refine Below.setCell ?_ ?_ _ | with_reducible exact Nat.le_refl _ | (simp only [World.size_alloc]; omega) | (simp <;> omega)))) D2.out HB3.out)).mono ?_); rintro e w' ⟨z6, rfl, hz6, rfl⟩; skip)
                    go_roundw
                    case rel => exact ⟨n2 + 1, by omega, by go_num, by rw [HND.out]; rfl, z6, rfl⟩
                    case measure => simp [intOf]; omega
                · have HND := Lib.hid (show (nearY b c.1 c.2 k n || nearX b (c.2 - k + (n : Int)) (c.1 - k) (n2 + 1)) = true from by rw [nearX_succ, ← Bool.or_assoc, hd]; rfl)
                  clear hd
                  go_wp2
                  go_roundw
                  case rel => exact ⟨n2 + 1, by omega, by go_num, by rw [HND.out], z5, rfl⟩
                  case measure => simp [intOf]; omega
              · have e2 : n2 = (2 * k + 1).toNat := by omega
                have HND := Lib.hid (show (nearY b c.1 c.2 k n || nearX b (c.2 - k + (n : Int)) (c.1 - k) n2) = nearY b c.1 c.2 k (n + 1) from by rw [nearY_succ, e2])
                clear e2
                go_wp2
                go_roundw
                case rel => exact ⟨n + 1, by omega, by go_num, by rw [HND.out], z5, rfl⟩
                case measure => simp [intOf]; omega
          · have e2 : n = (2 * k + 1).toNat := by omega
            cases hd : nearY b c.1 c.2 k n
            all_goals
              have HCC := Lib.hid (over_cell HVR.out HDE.out HCM.out (e2 ▸ hd))
              clear hd
              go_wp2
              ((refine wp_region_kinK (W := (Kin.wd z2)) (by kernel_rfl) (by kernel_rfl) (by repeat (first | with_reducible exact Below.refl _ _ | with_reducible exact Nat.le_refl _ | with_reducible refine Kin.below _ ?_ | with_reducible refine Below.alloc ?_ ?_ _ | with_reducible refine Below.drew ?_ | with_reducible refine Kin.le _ ?_ | with_reducible refine le_alloc ?_ _ | with_reducible refine le_drew ?_ | with_reducible refine Below.setCell ?_ ?_ _ | with_reducible exact Nat.le_refl _ | (simp only [World.size_alloc]; omega) | (simp <;> omega))) ?_); (repeat' (first | go_big_quiet_step ((go_at_call 23; exact Kin.quiet _ (containsC_is _ (ovR r b k) c.1 c.2 _ (HO2.out.below (by repeat (first | with_reducible exact Below.refl _ _ | with_reducible exact Nat.le_refl _ | with_reducible refine Kin.below _ ?_ | with_reducible refine Below.alloc ?_ ?_ _ | with_reducible refine Below.drew ?_ | with_reducible refine Kin.le _ ?_ | with_reducible refine le_alloc ?_ _ | with_reducible refine le_drew ?_ | with_reducible refine Below.setCell ?_ ?_ _ | with_reducible exact Nat.le_refl _ | (simp only [World.size_alloc]; omega) | (simp <;> omega)))) (rvalid_bd (ovR_valid _ _ _)) HCC.out))) | ((refine wpQuiet_guard rfl rfl rfl rfl (fun hg => ?_) (fun hg => ?_)) <;> (fail_if_success (first | guard_hyp hg : true = true | guard_hyp hg : false = false)) <;> (try simp only [decide_eq_true_eq, decide_eq_false_iff_not] at hg) <;> simp only [Act.put, List.setIfInBounds_toArray, List.set_cons_zero, List.set_cons_succ]))); all_goals ((with_reducible refine wpQuiet_nil ?_); intro zq hz))
              go_wp2
              go_roundw
              case rel => exact ⟨j + 1, by omega, by go_num, zq, rfl⟩
              case measure => simp [intOf]; omega
      · go_wp2_with (first
          | (go_at_call 19; (with_reducible refine (Kin.callK (W := (Kin.wd z2)) (by repeat (first | with_reducible exact Below.refl _ _ | with_reducible exact Nat.le_refl _ | with_reducible refine Kin.below _ ?_ | with_reducible refine Below.alloc ?_ ?_ _ | with_reducible refine Below.drew ?_ | with_reducible refine Kin.le _ ?_ | with_reducible refine le_alloc ?_ _ | with_reducible refine le_drew ?_ | with_reducible refine Below.setCell ?_ ?_ _ | with_reducible exact Nat.le_refl _ | (simp only [World.size_alloc]; omega) | (simp <;> omega))) (within_is _ _ (ovR r b k) r _ (HO2.out.below (by repeat (first | with_reducible exact Below.refl _ _ | with_reducible exact Nat.le_refl _ | with_reducible refine Kin.below _ ?_ | with_reducible refine Below.alloc ?_ ?_ _ | with_reducible refine Below.drew ?_ | with_reducible refine Kin.le _ ?_ | with_reducible refine le_alloc ?_ _ | with_reducible refine le_drew ?_ | with_reducible refine Below.setCell ?_ ?_ _ | with_reducible exact Nat.le_refl _ | (simp only [World.size_alloc]; omega) | (simp <;> omega)))) (HR2.out.below (by repeat (first | with_reducible exact Below.refl _ _ | with_reducible exact Nat.le_refl _ | with_reducible refine Kin.below _ ?_ | with_reducible refine Below.alloc ?_ ?_ _ | with_reducible refine Below.drew ?_ | with_reducible refine Kin.le _ ?_ | with_reducible refine le_alloc ?_ _ | with_reducible refine le_drew ?_ | with_reducible refine Below.setCell ?_ ?_ _ | with_reducible exact Nat.le_refl _ | (simp only [World.size_alloc]; omega) | (simp <;> omega)))) (rvalid_bd (ovR_valid _ _ _)) D1.out HWI.out)).mono ?_); rintro e w' ⟨z, rfl, hz, rfl⟩)
          | (go_at_call 10; (with_reducible refine (Kin.callK (W := (Kin.wd z2)) (by repeat (first | with_reducible exact Below.refl _ _ | with_reducible exact Nat.le_refl _ | with_reducible refine Kin.below _ ?_ | with_reducible refine Below.alloc ?_ ?_ _ | with_reducible refine Below.drew ?_ | with_reducible refine Kin.le _ ?_ | with_reducible refine le_alloc ?_ _ | with_reducible refine le_drew ?_ | with_reducible refine Below.setCell ?_ ?_ _ | with_reducible exact Nat.le_refl _ | (simp only [World.size_alloc]; omega) | (simp <;> omega))) (awake31_any _)).mono ?_); rintro e w' ⟨z, rfl, hz, rfl⟩))
        go_ret
        exact ⟨rfl, (by repeat (first | with_reducible exact Below.refl _ _ | with_reducible exact Nat.le_refl _ | with_reducible refine Kin.below _ ?_ | with_reducible refine Below.alloc ?_ ?_ _ | with_reducible refine Below.drew ?_ | with_reducible refine Kin.le _ ?_ | with_reducible refine le_alloc ?_ _ | with_reducible refine le_drew ?_ | with_reducible refine Below.setCell ?_ ?_ _ | with_reducible exact Nat.le_refl _ | (simp only [World.size_alloc]; omega) | (simp <;> omega)))⟩
  all_goals
    have HE := Lib.hid hE
    clear hE
    go_enter Try.func7, Try.ntmps7
    go_wp2_with (first
      | (go_at_call 9; (with_reducible refine (Kin.callK (W := (W.alloc (.cells #[.slice A r.length capA] 24)).alloc (.cells #[.slice B b.length capB] 24)) (by repeat (first | with_reducible exact Below.refl _ _ | with_reducible exact Nat.le_refl _ | with_reducible refine Kin.below _ ?_ | with_reducible refine Below.alloc ?_ ?_ _ | with_reducible refine Below.drew ?_ | with_reducible refine Kin.le _ ?_ | with_reducible refine le_alloc ?_ _ | with_reducible refine le_drew ?_ | with_reducible refine Below.setCell ?_ ?_ _ | with_reducible exact Nat.le_refl _ | (simp only [World.size_alloc]; omega) | (simp <;> omega))) (small18_is _ r _ (H.out.below (by repeat (first | with_reducible exact Below.refl _ _ | with_reducible exact Nat.le_refl _ | with_reducible refine Kin.below _ ?_ | with_reducible refine Below.alloc ?_ ?_ _ | with_reducible refine Below.drew ?_ | with_reducible refine Kin.le _ ?_ | with_reducible refine le_alloc ?_ _ | with_reducible refine le_drew ?_ | with_reducible refine Below.setCell ?_ ?_ _ | with_reducible exact Nat.le_refl _ | (simp only [World.size_alloc]; omega) | (simp <;> omega)))) s1)).mono ?_); rintro e w' ⟨z, rfl, hz, rfl⟩)
      | (go_at_call 9; (with_reducible refine (Kin.callK (W := (W.alloc (.cells #[.slice A r.length capA] 24)).alloc (.cells #[.slice B b.length capB] 24)) (by repeat (first | with_reducible exact Below.refl _ _ | with_reducible exact Nat.le_refl _ | with_reducible refine Kin.below _ ?_ | with_reducible refine Below.alloc ?_ ?_ _ | with_reducible refine Below.drew ?_ | with_reducible refine Kin.le _ ?_ | with_reducible refine le_alloc ?_ _ | with_reducible refine le_drew ?_ | with_reducible refine Below.setCell ?_ ?_ _ | with_reducible exact Nat.le_refl _ | (simp only [World.size_alloc]; omega) | (simp <;> omega))) (small18_is _ b _ (H2.out.below (by repeat (first | with_reducible exact Below.refl _ _ | with_reducible exact Nat.le_refl _ | with_reducible refine Kin.below _ ?_ | with_reducible refine Below.alloc ?_ ?_ _ | with_reducible refine Below.drew ?_ | with_reducible refine Kin.le _ ?_ | with_reducible refine le_alloc ?_ _ | with_reducible refine le_drew ?_ | with_reducible refine Below.setCell ?_ ?_ _ | with_reducible exact Nat.le_refl _ | (simp only [World.size_alloc]; omega) | (simp <;> omega)))) s2)).mono ?_); rintro e w' ⟨z, rfl, hz, rfl⟩; skip)
      | (go_at_call 11; (with_reducible refine (Kin.callK (W := (W.alloc (.cells #[.slice A r.length capA] 24)).alloc (.cells #[.slice B b.length capB] 24)) (by repeat (first | with_reducible exact Below.refl _ _ | with_reducible exact Nat.le_refl _ | with_reducible refine Kin.below _ ?_ | with_reducible refine Below.alloc ?_ ?_ _ | with_reducible refine Below.drew ?_ | with_reducible refine Kin.le _ ?_ | with_reducible refine le_alloc ?_ _ | with_reducible refine le_drew ?_ | with_reducible refine Below.setCell ?_ ?_ _ | with_reducible exact Nat.le_refl _ | (simp only [World.size_alloc]; omega) | (simp <;> omega))) (ov_is _ _ r b k _ (H.out.below (by repeat (first | with_reducible exact Below.refl _ _ | with_reducible exact Nat.le_refl _ | with_reducible refine Kin.below _ ?_ | with_reducible refine Below.alloc ?_ ?_ _ | with_reducible refine Below.drew ?_ | with_reducible refine Kin.le _ ?_ | with_reducible refine le_alloc ?_ _ | with_reducible refine le_drew ?_ | with_reducible refine Below.setCell ?_ ?_ _ | with_reducible exact Nat.le_refl _ | (simp only [World.size_alloc]; omega) | (simp <;> omega)))) D1.out (H2.out.below (by repeat (first | with_reducible exact Below.refl _ _ | with_reducible exact Nat.le_refl _ | with_reducible refine Kin.below _ ?_ | with_reducible refine Below.alloc ?_ ?_ _ | with_reducible refine Below.drew ?_ | with_reducible refine Kin.le _ ?_ | with_reducible refine le_alloc ?_ _ | with_reducible refine le_drew ?_ | with_reducible refine Below.setCell ?_ ?_ _ | with_reducible exact Nat.le_refl _ | (simp only [World.size_alloc]; omega) | (simp <;> omega)))) D2.out HE.out)).mono ?_); rintro e w' ⟨z1, ⟨OA, on, oc, rfl, ho⟩, hz1, rfl⟩; (clear ho))
      | (go_at_call 10; (with_reducible refine (Kin.callK (W := (Kin.wd z1).alloc (.cells #[.slice OA on oc] 24)) (by repeat (first | with_reducible exact Below.refl _ _ | with_reducible exact Nat.le_refl _ | with_reducible refine Kin.below _ ?_ | with_reducible refine Below.alloc ?_ ?_ _ | with_reducible refine Below.drew ?_ | with_reducible refine Kin.le _ ?_ | with_reducible refine le_alloc ?_ _ | with_reducible refine le_drew ?_ | with_reducible refine Below.setCell ?_ ?_ _ | with_reducible exact Nat.le_refl _ | (simp only [World.size_alloc]; omega) | (simp <;> omega))) (awake31_any _)).mono ?_); rintro e w' ⟨z, rfl, hz, rfl⟩))
    go_ret
    exact ⟨rfl, (by repeat (first | with_reducible exact Below.refl _ _ | with_reducible exact Nat.le_refl _ | with_reducible refine Kin.below _ ?_ | with_reducible refine Below.alloc ?_ ?_ _ | with_reducible refine Below.drew ?_ | with_reducible refine Kin.le _ ?_ | with_reducible refine le_alloc ?_ _ | with_reducible refine le_drew ?_ | with_reducible refine Below.setCell ?_ ?_ _ | with_reducible exact Nat.le_refl _ | (simp only [World.size_alloc]; omega) | (simp <;> omega)))⟩
set_option maxRecDepth 100000 in
theorem supportCells_lifted (os : Os) (started : os.Started) (H : Type) (enc : TypeId × Value → H) :
    ReturnsInHanded {} Try.checked os 7 .any (Rows.supportCellsSpec.pre6 enc Try.prog Try.f7 Rows.supportCellsRow.domain false) (Rows.supportCellsSpec.post enc Try.prog Try.f7 false true false false) := by
  refine returnsInHanded_of_change (C := Try.checked) own started (by kernel_rfl) Try.func7
    (ChangeSpec.witness6 (enc := enc) (C := Try.checked) false ⟨#[], #[.agg #[.slice none 0 0], .agg #[.slice none 0 0], .int .u8 0], []⟩ 8 (by kernel_rfl) (by kernel_rfl) (by kernel_rfl) (by kernel_rfl)) ?_
  intro W base args ds gs before hval0 hW hcnd _
  have hval : ∀ (j : Nat) t v, Try.f7.params[j]? = some t → args[j]? = some v → Value.okWide Try.prog W .any base t v := hval0
  have hW' := hW
  obtain ⟨p, q, hA0, hV, rfl, hfz, hnd⟩ := hW
  have hA : DataW.TrodAll enc Try.prog W 0 (fun _ => true) true Try.f7.params.toList args.toList ds p := hA0
  rw [Try.params7] at hA hval
  have hAA := hA
  obtain ⟨v0, vs0, d0, ds0, p0, q0, hargs, rfl, rfl, h0, r0⟩ := trodAll_cons hA
  obtain ⟨v1, vs1, d1, ds1, p1, q1, rfl, rfl, rfl, h1, r1⟩ := trodAll_cons r0
  obtain ⟨v2, vs2, d2, ds2, p2, q2, rfl, rfl, rfl, h2, r2⟩ := trodAll_cons r1
  obtain ⟨rfl, rfl, rfl⟩ := trodAll_nil r2
  obtain rfl : args = #[v0, v1, v2] := by cases args; simp_all
  obtain ⟨rfl, rfl⟩ := trodVars_none hV
  have o0 := open_reg (hval 0 24 v0 rfl rfl) h0
  have o1 := open_reg (hval 1 24 v1 rfl rfl) h1
  have o2 := open_u8n (hval 2 5 v2 rfl rfl) h2
  have hlt : ∀ x ∈ p0 ++ (p1 ++ (p2 ++ [])), x.block < W.heap.size := fun x hx => hW'.lt x (by simpa using hx)
  refine (cells_walk W _ o0 _ o1 _ o2).mono fun e W' ⟨he, bel⟩ => ?_
  subst he
  exact ⟨_, rfl, _, _, _, [], _, [], hW', trodAll_mk1 (shut_bool Try.underlying4 _), below_trodAll laidOut bel _ _ _ _ (by
    intro t ht
    have hcl : ([24, 24, 5] : List TypeId).all (fun t => Try.prog.readableRec t && decide (t < Try.prog.types.size)) = true := by kernel_rfl
    have := List.all_eq_true.1 hcl t ht
    simpa using this) hlt hAA, rfl, bel.frame _, fun h => by cases h⟩
theorem supportCells_heard : (Try.checked.prog.stopsHeard = true ∧ Try.checked.prog.mayEnter = true) ∧ Try.checked.prog.liftsFinal = Rows.supportCellsRow.lifted := ⟨⟨by kernel_rfl, by kernel_rfl⟩, by kernel_rfl⟩
theorem supportCells_calls : (Try.checked.prog.inPlace 7 = Rows.supportCellsRow.inPlace ∧ Try.checked.prog.unfollowed 7 = Rows.supportCellsRow.unfollowed) ∧ (Try.checked.prog.recurses 7 = Rows.supportCellsRow.recurses ∧ Try.checked.prog.varsNamed 7 = Rows.supportCellsRow.named) := ⟨⟨by kernel_rfl, by kernel_rfl⟩, ⟨by kernel_rfl, by kernel_rfl⟩⟩
theorem supportCells_closed : joinedFacts Try.checked.prog 7 Try.f7 Rows.supportCellsSpec Rows.supportCellsRow = true := by
  unfold joinedFacts
  rw [supportCells_calls.1.1, supportCells_calls.1.2, supportCells_calls.2.1, supportCells_calls.2.2, supportCells_heard.1.1, supportCells_heard.1.2, supportCells_heard.2]
  kernel_rfl
/-- SupportCells: for every input the call returns true, and the arguments read behind it as before. No condition. -/
theorem supportCells_holds : Rows.SupportCellsSaid :=
  OpenClaim.holds_of_wide 7 Try.f7 rfl rfl rfl rfl rfl rfl rfl ⟨rfl, rfl, rfl, rfl, rfl⟩ rfl rfl rfl rfl rfl (by kernel_rfl) Try.func7 supportCells_closed
    (of_decide_eq_true (by kernel_rfl)) (by unfold Func.isWrapper; rw [if_neg (of_decide_eq_false (by kernel_rfl))]; exact ⟨rfl, rfl⟩)
    (fun os started H enc _ => supportCells_lifted os started H enc)

end Go.Proofs.Ytlhmopndnohnhaa

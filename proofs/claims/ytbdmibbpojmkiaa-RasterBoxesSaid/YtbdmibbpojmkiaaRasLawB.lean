/- RasterBoxes: for every input the law returns true. No condition. -/
import Derived.Test.YtbdmibbpojmkiaaRasLawW
namespace Go.Proofs.Ytbdmibbpojmkiaa
set_option linter.unusedSimpArgs false
set_option linter.unusedVariables false
set_option maxRecDepth 100000
open Go.ChangeShapes Go.WideShapes Go.ChangeAt Go.RowKit Go.Joins Runs Reg Ras
attribute [local go_sem] Kin.cell Kin.frozen Kin.lt0 Kin.lt1 Kin.lt2 Kin.lt3 run_mkf
theorem pols4g (w : World) {g g' : Nat} (hg : g = w.heap.size) (hg' : g' = w.heap.size + 1) (a b c d : P2) : RdPols ((w.alloc (.cells #[.int .i64 a.1, .int .i64 a.2, .int .i64 b.1, .int .i64 b.2, .int .i64 c.1, .int .i64 c.2, .int .i64 d.1, .int .i64 d.2] 24)).alloc (.cells #[.slice (some ⟨g, 0, none⟩) 4 4] 40)) (.slice (some ⟨g', 0, none⟩) 1 1) [[a, b, c, d]] := by subst hg hg'; exact pols4 w a b c d
theorem rd_run1 (w : World) (a b : Int) : Rd 2 encRun (w.alloc (.cells #[.int .i64 a, .int .i64 b] 46)) (.slice (some ⟨w.heap.size, 0, none⟩) 1 1) [(a, b)] := rd_one w encRun_len _ (a, b) _ rfl rfl
theorem few4 (a b c d : P2) : FewP [[a, b, c, d]] := ⟨by simp, by simp [ptsN]⟩
theorem box_in {x p : Int} (hx : -28 ≤ x ∧ x ≤ 28) (hp : 32 ≤ p ∧ p ≤ 1024) : -28672 ≤ x * p ∧ x * p ≤ 28672 := by
  have := mul_bd (x := x) (y := p) (M := 28) (N := 1024) (by omega) (by omega)
  omega
theorem box_E {p : Int} (hp : okPitch p = true) {a b c d : P2} (h : okPt a = true ∧ okPt b = true ∧ okPt c = true ∧ okPt d = true) : rasE [[a, b, c, d]] p = 0 := by
  obtain ⟨h1, h2, h3, h4⟩ := h
  exact rasE_zero.2 ⟨hp, by simp [okPs, h1, h2, h3, h4]⟩
set_option maxHeartbeats 16000000 in
theorem rasBoxes_bad (W : World) (p x y wd hh : Int) (hbad : ¬ (32 ≤ p ∧ p ≤ 1024 ∧ p % 2 = 0) ∨ x < -20 ∨ 20 < x ∨ y < -20 ∨ 20 < y ∨ wd < 1 ∨ 8 < wd ∨ hh < 1 ∨ 8 < hh) : Calls Try.prog 5 #[.int .i64 p, .int .i64 x, .int .i64 y, .int .i64 wd, .int .i64 hh] W fun e W' => e = .returned (.bool true) ∧ Below W.heap.size W W' := by
  have hm := tmod2_wrap p
  have hc : p < 32 ∨ (¬ p < 32 ∧ 1024 < p) ∨ (¬ p < 32 ∧ ¬ 1024 < p ∧ (p % 2 != 0) = true) ∨ (¬ p < 32 ∧ ¬ 1024 < p ∧ (p % 2 != 0) = false ∧ x < -20) ∨ (¬ p < 32 ∧ ¬ 1024 < p ∧ (p % 2 != 0) = false ∧ ¬ x < -20 ∧ 20 < x) ∨ (¬ p < 32 ∧ ¬ 1024 < p ∧ (p % 2 != 0) = false ∧ ¬ x < -20 ∧ ¬ 20 < x ∧ y < -20) ∨ (¬ p < 32 ∧ ¬ 1024 < p ∧ (p % 2 != 0) = false ∧ ¬ x < -20 ∧ ¬ 20 < x ∧ ¬ y < -20 ∧ 20 < y) ∨ (¬ p < 32 ∧ ¬ 1024 < p ∧ (p % 2 != 0) = false ∧ ¬ x < -20 ∧ ¬ 20 < x ∧ ¬ y < -20 ∧ ¬ 20 < y ∧ wd < 1) ∨ (¬ p < 32 ∧ ¬ 1024 < p ∧ (p % 2 != 0) = false ∧ ¬ x < -20 ∧ ¬ 20 < x ∧ ¬ y < -20 ∧ ¬ 20 < y ∧ ¬ wd < 1 ∧ 8 < wd) ∨ (¬ p < 32 ∧ ¬ 1024 < p ∧ (p % 2 != 0) = false ∧ ¬ x < -20 ∧ ¬ 20 < x ∧ ¬ y < -20 ∧ ¬ 20 < y ∧ ¬ wd < 1 ∧ ¬ 8 < wd ∧ hh < 1) ∨ (¬ p < 32 ∧ ¬ 1024 < p ∧ (p % 2 != 0) = false ∧ ¬ x < -20 ∧ ¬ 20 < x ∧ ¬ y < -20 ∧ ¬ 20 < y ∧ ¬ wd < 1 ∧ ¬ 8 < wd ∧ ¬ hh < 1 ∧ 8 < hh) := by
    by_cases k1 : p < 32
    · exact .inl k1
    · right
      by_cases k2 : 1024 < p
      · exact .inl ⟨k1, k2⟩
      · right
        cases k3 : (p % 2 != 0)
        · right
          have k4 : p % 2 = 0 := by simpa using k3
          simp only [k1, k2, not_false_eq_true, true_and]
          omega
        · exact .inl ⟨k1, k2, rfl⟩
  clear hbad
  rcases hc with k1 | ⟨k1, k2⟩ | ⟨k1, k2, k3⟩ | ⟨k1, k2, k3, k4⟩ | ⟨k1, k2, k3, k4, k5⟩ | ⟨k1, k2, k3, k4, k5, k6⟩ | ⟨k1, k2, k3, k4, k5, k6, k7⟩ | ⟨k1, k2, k3, k4, k5, k6, k7, k8⟩ | ⟨k1, k2, k3, k4, k5, k6, k7, k8, k9⟩ | ⟨k1, k2, k3, k4, k5, k6, k7, k8, k9, k10⟩ | ⟨k1, k2, k3, k4, k5, k6, k7, k8, k9, k10, k11⟩
  all_goals
    go_enter Try.func5, Try.ntmps5
    go_wp2_with (go_at_call 11; (with_reducible refine (Kin.callK (W := W) (by repeat (first | with_reducible (first | exact blA | exact blB | refine blC _ ?_ | refine blD ?_ ?_ _ | refine blE ?_ | refine blF _ ?_ | refine blG ?_ _ | refine blH ?_ | refine blI ?_ ?_ _) | (simp only [World.size_alloc]; omega) | (simp <;> omega))) (awake19_any _)).mono ?_); rintro e w' ⟨z, rfl, hz, rfl⟩)
    go_ret
    exact ⟨rfl, (by repeat (first | with_reducible (first | exact blA | exact blB | refine blC _ ?_ | refine blD ?_ ?_ _ | refine blE ?_ | refine blF _ ?_ | refine blG ?_ _ | refine blH ?_ | refine blI ?_ ?_ _) | (simp only [World.size_alloc]; omega) | (simp <;> omega)))⟩
set_option maxHeartbeats 16000000 in
theorem rasBoxes_good (W : World) (p x y wd hh : Int) (hp : okPitch p = true) (hx : -20 ≤ x ∧ x ≤ 20) (hy : -20 ≤ y ∧ y ≤ 20) (hw : 1 ≤ wd ∧ wd ≤ 8) (hh1 : 1 ≤ hh ∧ hh ≤ 8) : Calls Try.prog 5 #[.int .i64 p, .int .i64 x, .int .i64 y, .int .i64 wd, .int .i64 hh] W fun e W' => e = .returned (.bool true) ∧ Below W.heap.size W W' := by
  have hm := tmod2_wrap p
  obtain ⟨hp1, hp2, hp3⟩ := okPitch_iff.1 hp
  obtain ⟨n, rfl⟩ : ∃ n : Nat, hh = (n : Int) := ⟨hh.toNat, by omega⟩
  have k1 : ¬ p < 32 := by omega
  have k2 : ¬ 1024 < p := by omega
  have k3 : (p % 2 != 0) = false := by simpa using hp3
  have k4 : ¬ x < -20 := by omega
  have k5 : ¬ 20 < x := by omega
  have k6 : ¬ y < -20 := by omega
  have k7 : ¬ 20 < y := by omega
  have k8 : ¬ wd < 1 := by omega
  have k9 : ¬ 8 < wd := by omega
  have k10 : ¬ (n : Int) < 1 := by omega
  have k11 : ¬ 8 < (n : Int) := by omega
  have b1 := box_in (x := x) (p := p) (by omega) ⟨hp1, hp2⟩
  have b2 := box_in (x := y) (p := p) (by omega) ⟨hp1, hp2⟩
  have b3 := box_in (x := x + wd) (p := p) (by omega) ⟨hp1, hp2⟩
  have b4 := box_in (x := y + (n : Int)) (p := p) (by omega) ⟨hp1, hp2⟩
  have r1 := ras_ccw (X := x) (Y := y) (W := wd) (p := p) (n := n) (by omega) (by omega) (by omega) (by omega) (by omega)
  have r2 := ras_cw (X := x) (Y := y) (W := wd) (H := (n : Int)) (p := p) (by omega) (by omega) (by omega)
  unfold ccwP at r1
  unfold cwP at r2
  obtain ⟨ax, hax⟩ : ∃ ax, x * p = ax := ⟨_, rfl⟩
  obtain ⟨ay, hay⟩ : ∃ ay, y * p = ay := ⟨_, rfl⟩
  obtain ⟨bx, hbx⟩ : ∃ bx, (x + wd) * p = bx := ⟨_, rfl⟩
  obtain ⟨by', hby⟩ : ∃ by', (y + (n : Int)) * p = by' := ⟨_, rfl⟩
  rw [hax] at b1
  rw [hay] at b2
  rw [hbx] at b3
  rw [hby] at b4
  rw [hax, hay, hbx, hby] at r1 r2
  have hw1 : IntKind.i64.wrap (x * p) = ax := by rw [hax]; exact IntWalk.i64_in _ (by omega)
  have hw2 : IntKind.i64.wrap (y * p) = ay := by rw [hay]; exact IntWalk.i64_in _ (by omega)
  have hw3 : IntKind.i64.wrap ((x + wd) * p) = bx := by rw [hbx]; exact IntWalk.i64_in _ (by omega)
  have hw4 : IntKind.i64.wrap ((y + (n : Int)) * p) = by' := by rw [hby]; exact IntWalk.i64_in _ (by omega)
  have o1 : okPt (ax, ay) = true := okPt_iff.2 (by simp only; omega)
  have o2 : okPt (bx, ay) = true := okPt_iff.2 (by simp only; omega)
  have o3 : okPt (bx, by') = true := okPt_iff.2 (by simp only; omega)
  have o4 : okPt (ax, by') = true := okPt_iff.2 (by simp only; omega)
  have HE1 := Lib.hid (box_E hp ⟨o1, o2, o3, o4⟩)
  have HE2 := Lib.hid (box_E hp ⟨o1, o4, o3, o2⟩)
  have HR1 := Lib.hid (show rasO [[(ax, ay), (bx, ay), (bx, by'), (ax, by')]] p = boxRows x y wd n by unfold rasO; rw [if_pos HE1.out]; exact r1)
  have HR2 := Lib.hid (show rasO [[(ax, ay), (ax, by'), (bx, by'), (bx, ay)]] p = [] by unfold rasO; rw [if_pos HE2.out]; exact r2)
  have HBA := Lib.hid (fun (i : Nat) (hi : i < n) => boxRows_at (X := x) (Y := y) (W := wd) hi)
  have hbl := boxRows_len x y wd n
  obtain ⟨R, hR⟩ : ∃ R, boxRows x y wd n = R := ⟨_, rfl⟩
  rw [hR] at HR1 HBA hbl
  clear r1 r2 hax hay hbx hby o1 o2 o3 o4 hR hp hp3 hm b1 b2 b3 b4
  go_enter Try.func5, Try.ntmps5
  go_wp2_with (first
    | (go_at_call 13; (with_reducible refine (Kin.callK (W := ((W.alloc (.cells #[.int .i64 ax, .int .i64 ay] 24)).alloc (.cells #[.int .i64 bx, .int .i64 by'] 24))) (by repeat (first | with_reducible (first | exact blA | exact blB | refine blC _ ?_ | refine blD ?_ ?_ _ | refine blE ?_ | refine blF _ ?_ | refine blG ?_ _ | refine blH ?_ | refine blI ?_ ?_ _) | (simp only [World.size_alloc]; omega) | (simp <;> omega))) (raster_is _ [[(ax, ay), (bx, ay), (bx, by'), (ax, by')]] p _ (pols4g ((W.alloc (.cells #[.int .i64 ax, .int .i64 ay] 24)).alloc (.cells #[.int .i64 bx, .int .i64 by'] 24)) (by simp) (by simp) (ax, ay) (bx, ay) (bx, by') (ax, by')) (few4 _ _ _ _) HE1.out HR1.out)).mono ?_); rintro e w' ⟨zA, ⟨A, nA, cA, rfl, hr⟩, hzA, rfl⟩; (have HA := Lib.hid hr; have PA := Lib.hid zA.boxes2.1; have PB := Lib.hid zA.boxes2.2; have a0 : (Kin.wd zA).cell? ⟨W.heap.size, 0, none⟩ = some (.int .i64 ax) := PA.out.cell 0; have a1 : (Kin.wd zA).cell? ⟨W.heap.size, 1, none⟩ = some (.int .i64 ay) := PA.out.cell 1; have al := PA.out.lt; have b0 : (Kin.wd zA).cell? ⟨W.heap.size + 1, 0, none⟩ = some (.int .i64 bx) := PB.out.cell 0; have b1 : (Kin.wd zA).cell? ⟨W.heap.size + 1, 1, none⟩ = some (.int .i64 by') := PB.out.cell 1; have bl := PB.out.lt; clear hr hzA))
    | (go_at_call 13; (with_reducible refine (Kin.callK (W := ((Kin.wd zA).alloc (.cells #[.slice A nA cA] 32))) (by repeat (first | with_reducible (first | exact blA | exact blB | refine blC _ ?_ | refine blD ?_ ?_ _ | refine blE ?_ | refine blF _ ?_ | refine blG ?_ _ | refine blH ?_ | refine blI ?_ ?_ _) | (simp only [World.size_alloc]; omega) | (simp <;> omega))) (raster_is _ [[(ax, ay), (ax, by'), (bx, by'), (bx, ay)]] p _ (pols4g ((Kin.wd zA).alloc (.cells #[.slice A nA cA] 32)) (by simp) (by simp) (ax, ay) (ax, by') (bx, by') (bx, ay)) (few4 _ _ _ _) HE2.out HR2.out)).mono ?_); rintro e w' ⟨zB, ⟨B, nB, cB, rfl, hr⟩, hzB, rfl⟩; (obtain ⟨rfl, _⟩ := reg_row hr; have HRA := Lib.hid ((HA.out.below (show Below (Kin.wd zA).heap.size (Kin.wd zA) ((Kin.wd zA).alloc (.cells #[.slice A nA cA] 32)) from (by repeat (first | with_reducible (first | exact blA | exact blB | refine blC _ ?_ | refine blD ?_ ?_ _ | refine blE ?_ | refine blF _ ?_ | refine blG ?_ _ | refine blH ?_ | refine blI ?_ ?_ _) | (simp only [World.size_alloc]; omega) | (simp <;> omega))))).below zB.2); have PR := Lib.hid ((Blk.new (Kin.wd zA) 32 #[.slice A nA cA]).below zB.2); have r0 : (Kin.wd zB).cell? ⟨(Kin.wd zA).heap.size, 0, none⟩ = some (.slice A nA cA) := PR.out.cell 0; have rl := PR.out.lt; (obtain ⟨hnA, hop⟩ := reg_row HRA.out); have HOP := Lib.hid hop; have hnn : nA = n := hnA.trans hbl; have hne : ((nA : Int) != (n : Int)) = false := (by simp [hnn]); clear hr hop hnA)))
  go_loopw [17] (fun i wr => ∃ k : Nat, k ≤ n ∧ i = .int .i64 k ∧ ∃ z : Kin zB.1, z.1 = wr) (fun i _ => n - (intOf i).toNat)
  case atStart => exact ⟨0, Nat.zero_le _, rfl, ⟨World.alloc _ _, (by repeat (first | with_reducible (first | exact blA | exact blB | refine blC _ ?_ | refine blD ?_ ?_ _ | refine blE ?_ | refine blF _ ?_ | refine blG ?_ _ | refine blH ?_ | refine blI ?_ ?_ _) | (simp only [World.size_alloc]; omega) | (simp <;> omega)))⟩, rfl⟩
  case round =>
    obtain ⟨k, hk, rfl, z, rfl⟩ := hrel
    by_cases hlt : k < n
    · have hrk := HBA.out k hlt
      obtain ⟨b, off, rfl, hb, hc⟩ := HOP.out k _ hrk
      obtain ⟨S, cS, q0, q1, hcS, hS⟩ := hc k _ hrk
      have q1 : zB.1.cell? ⟨b, off + k * 2 + 1, none⟩ = some (.slice S 1 cS) := q1
      have HS := Lib.hid (show Rd 2 encRun zB.1 (.slice S 1 cS) [(x, x + wd)] from hS)
      have g0 : z.1.cell? ⟨b, off + k * 2, none⟩ = some (.int .i64 (y + (k : Int))) := (z.cell hb).trans q0
      have g1 : z.1.cell? ⟨b, off + k * 2 + 1, none⟩ = some (.slice S 1 cS) := (z.cell hb).trans q1
      have gl := z.lt0 hb
      have hkn : k < nA := by omega
      have ey : (y + (k : Int) != y + (k : Int)) = false := by simp
      have hwk : IntKind.i64.wrap (y + (k : Int)) = y + (k : Int) := IntWalk.i64_in _ (by omega)
      clear hrk hc hS q0 q1
      go_wp2_with (go_at_call 16; (with_reducible refine (Kin.callK (W := (Kin.wd zB)) (by repeat (first | with_reducible (first | exact blA | exact blB | refine blC _ ?_ | refine blD ?_ ?_ _ | refine blE ?_ | refine blF _ ?_ | refine blG ?_ _ | refine blH ?_ | refine blI ?_ ?_ _) | (simp only [World.size_alloc]; omega) | (simp <;> omega))) (same06_t (a := [(x, x + wd)]) (b := [(x, x + wd)]) _ _ _ (HS.out.below (by repeat (first | with_reducible (first | exact blA | exact blB | refine blC _ ?_ | refine blD ?_ ?_ _ | refine blE ?_ | refine blF _ ?_ | refine blG ?_ _ | refine blH ?_ | refine blI ?_ ?_ _) | (simp only [World.size_alloc]; omega) | (simp <;> omega)))) (rd_run1 (Kin.wd z) x (x + wd)) (by simp) rfl)).mono ?_); rintro e w' ⟨z9, rfl, hz9, rfl⟩; skip)
      go_roundw
      case rel => exact ⟨k + 1, by omega, by go_num, z9, rfl⟩
      case measure => simp [intOf]; omega
    · have ek : k = n := by omega
      go_wp2_with (go_at_call 11; (with_reducible refine (Kin.callK (W := (Kin.wd zB)) (by repeat (first | with_reducible (first | exact blA | exact blB | refine blC _ ?_ | refine blD ?_ ?_ _ | refine blE ?_ | refine blF _ ?_ | refine blG ?_ _ | refine blH ?_ | refine blI ?_ ?_ _) | (simp only [World.size_alloc]; omega) | (simp <;> omega))) (awake19_any _)).mono ?_); rintro e w' ⟨z9, rfl, hz9, rfl⟩; skip)
      go_ret
      exact ⟨rfl, (by repeat (first | with_reducible (first | exact blA | exact blB | refine blC _ ?_ | refine blD ?_ ?_ _ | refine blE ?_ | refine blF _ ?_ | refine blG ?_ _ | refine blH ?_ | refine blI ?_ ?_ _) | (simp only [World.size_alloc]; omega) | (simp <;> omega)))⟩
theorem rasBoxes_walk (W : World) (v1 : Value) (h1 : IsInt v1) (v2 : Value) (h2 : IsInt v2) (v3 : Value) (h3 : IsInt v3) (v4 : Value) (h4 : IsInt v4) (v5 : Value) (h5 : IsInt v5) : Calls Try.prog 5 #[v1, v2, v3, v4, v5] W fun e W' => e = .returned (.bool true) ∧ Below W.heap.size W W' := by
  obtain ⟨p, rfl, _⟩ := h1
  obtain ⟨x, rfl, _⟩ := h2
  obtain ⟨y, rfl, _⟩ := h3
  obtain ⟨wd, rfl, _⟩ := h4
  obtain ⟨hh, rfl, _⟩ := h5
  by_cases hbad : ¬ (32 ≤ p ∧ p ≤ 1024 ∧ p % 2 = 0) ∨ x < -20 ∨ 20 < x ∨ y < -20 ∨ 20 < y ∨ wd < 1 ∨ 8 < wd ∨ hh < 1 ∨ 8 < hh
  · exact rasBoxes_bad W p x y wd hh hbad
  · exact rasBoxes_good W p x y wd hh (okPitch_iff.2 (by omega)) (by omega) (by omega) (by omega) (by omega)
set_option maxRecDepth 100000 in
theorem rasterBoxes_lifted (os : Os) (started : os.Started) (H : Type) (enc : TypeId × Value → H) :
    ReturnsInHanded {} Try.checked os 5 .any (Rows.rasterBoxesSpec.pre6 enc Try.prog Try.f5 Rows.rasterBoxesRow.domain false) (Rows.rasterBoxesSpec.post enc Try.prog Try.f5 false true false false) := by
  refine returnsInHanded_of_change (C := Try.checked) own started (by kernel_rfl) Try.func5
    (ChangeSpec.witness6 (enc := enc) (C := Try.checked) false ⟨#[], #[.int .i64 0, .int .i64 0, .int .i64 0, .int .i64 0, .int .i64 0], []⟩ 8 (by kernel_rfl) (by kernel_rfl) (by kernel_rfl) (by kernel_rfl)) ?_
  intro W base args ds gs before hval0 hW hcnd _
  have hval : ∀ (j : Nat) t v, Try.f5.params[j]? = some t → args[j]? = some v → Value.okWide Try.prog W .any base t v := hval0
  have hW' := hW
  obtain ⟨p, q, hA0, hV, rfl, hfz, hnd⟩ := hW
  have hA : DataW.TrodAll enc Try.prog W 0 (fun _ => true) true Try.f5.params.toList args.toList ds p := hA0
  rw [Try.params5] at hA hval
  have hAA := hA
  obtain ⟨v0, vs0, d0, ds0, p0, q0, hargs, rfl, rfl, h0, r0⟩ := trodAll_cons hA
  obtain ⟨v1, vs1, d1, ds1, p1, q1, rfl, rfl, rfl, h1, r1⟩ := trodAll_cons r0
  obtain ⟨v2, vs2, d2, ds2, p2, q2, rfl, rfl, rfl, h2, r2⟩ := trodAll_cons r1
  obtain ⟨v3, vs3, d3, ds3, p3, q3, rfl, rfl, rfl, h3, r3⟩ := trodAll_cons r2
  obtain ⟨v4, vs4, d4, ds4, p4, q4, rfl, rfl, rfl, h4, r4⟩ := trodAll_cons r3
  obtain ⟨rfl, rfl, rfl⟩ := trodAll_nil r4
  obtain rfl : args = #[v0, v1, v2, v3, v4] := by cases args; simp_all
  obtain ⟨rfl, rfl⟩ := trodVars_none hV
  have o0 := open_i64 (hval 0 3 v0 rfl rfl) h0
  have o1 := open_i64 (hval 1 3 v1 rfl rfl) h1
  have o2 := open_i64 (hval 2 3 v2 rfl rfl) h2
  have o3 := open_i64 (hval 3 3 v3 rfl rfl) h3
  have o4 := open_i64 (hval 4 3 v4 rfl rfl) h4
  have hlt : ∀ x ∈ p0 ++ (p1 ++ (p2 ++ (p3 ++ (p4 ++ [])))), x.block < W.heap.size := fun x hx => hW'.lt x (by simpa using hx)
  refine (rasBoxes_walk W _ o0 _ o1 _ o2 _ o3 _ o4).mono fun e W' ⟨he, bel⟩ => ?_
  subst he
  exact ⟨_, rfl, _, _, _, [], _, [], hW', trodAll_mk1 (shut_bool Try.underlying4 _), below_trodAll laidOut bel _ _ _ _ (by
    intro t ht
    have hcl : ([3, 3, 3, 3, 3] : List TypeId).all (fun t => Try.prog.readableRec t && decide (t < Try.prog.types.size)) = true := by kernel_rfl
    have := List.all_eq_true.1 hcl t ht
    simpa using this) hlt hAA, rfl, bel.frame _, fun h => by cases h⟩
theorem rasterBoxes_heard : (Try.checked.prog.stopsHeard = true ∧ Try.checked.prog.mayEnter = true) ∧ Try.checked.prog.liftsFinal = Rows.rasterBoxesRow.lifted := ⟨⟨by kernel_rfl, by kernel_rfl⟩, by kernel_rfl⟩
theorem rasterBoxes_calls : (Try.checked.prog.inPlace 5 = Rows.rasterBoxesRow.inPlace ∧ Try.checked.prog.unfollowed 5 = Rows.rasterBoxesRow.unfollowed) ∧ (Try.checked.prog.recurses 5 = Rows.rasterBoxesRow.recurses ∧ Try.checked.prog.varsNamed 5 = Rows.rasterBoxesRow.named) := ⟨⟨by kernel_rfl, by kernel_rfl⟩, ⟨by kernel_rfl, by kernel_rfl⟩⟩
theorem rasterBoxes_closed : joinedFacts Try.checked.prog 5 Try.f5 Rows.rasterBoxesSpec Rows.rasterBoxesRow = true := by
  unfold joinedFacts
  rw [rasterBoxes_calls.1.1, rasterBoxes_calls.1.2, rasterBoxes_calls.2.1, rasterBoxes_calls.2.2, rasterBoxes_heard.1.1, rasterBoxes_heard.1.2, rasterBoxes_heard.2]
  kernel_rfl
/-- RasterBoxes: for every input the call returns true, and the arguments read behind it as before. No condition. -/
theorem rasterBoxes_holds : Rows.RasterBoxesSaid :=
  OpenClaim.holds_of_wide 5 Try.f5 rfl rfl rfl rfl rfl rfl rfl ⟨rfl, rfl, rfl, rfl, rfl⟩ rfl rfl rfl rfl rfl (by kernel_rfl) Try.func5 rasterBoxes_closed
    (of_decide_eq_true (by kernel_rfl)) (by unfold Func.isWrapper; rw [if_neg (of_decide_eq_false (by kernel_rfl))]; exact ⟨rfl, rfl⟩)
    (fun os started H enc _ => rasterBoxes_lifted os started H enc)

end Go.Proofs.Ytbdmibbpojmkiaa

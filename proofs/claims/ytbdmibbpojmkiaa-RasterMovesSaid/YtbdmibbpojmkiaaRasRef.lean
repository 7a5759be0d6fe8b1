/- The chapter's own rows and regions of polygons. -/
import Derived.Test.YtbdmibbpojmkiaaRasInside
import Derived.Test.YtbdmibbpojmkiaaRasChkR
import Derived.Test.YtbdmibbpojmkiaaRasMathC
import Derived.Test.YtbdmibbpojmkiaaRunsRef3
import Derived.Test.YtbdmibbpojmkiaaRegGen
import Derived.Test.YtbdmibbpojmkiaaRasProg
import Derived.Test.YtbdmibbpojmkiaaOf
namespace Go.Proofs.Ytbdmibbpojmkiaa
set_option linter.unusedSimpArgs false
set_option linter.unusedVariables false
set_option maxRecDepth 100000
open Go.RowKit Runs Reg Ras
attribute [local go_sem] Kin.cell Kin.frozen Kin.lt0 Kin.lt1 Kin.lt2 Kin.lt3 run_mkf
theorem check19_is {E : Int} (v : Value) (l : List (List P2)) (p : Int) (w : World) (h : RdPols w v l) (hf : FewP l) (hE : rasE l p = E) :
    Calls Try.prog 31 #[v, .int .i64 p] w fun e w' => e = .returned (.int .i64 E) ∧ Below w.heap.size w w' := by subst hE; exact check19_any v l p w h hf
set_option maxHeartbeats 8000000 in
theorem far_any (v : Value) (l : List (List P2)) (p : Int) (w : World) (h : RdPols w v l) (hf : FewP l) (hok : okPs l = true) (hp : 32 ≤ p ∧ p ≤ 1024) :
    Calls Try.prog 32 #[v, .int .i64 p] w fun e w' => (∃ N, e = .returned (.int .i64 N) ∧ Near l p N ∧ 1 ≤ N ∧ N ≤ 2049) ∧ Below w.heap.size w w' := by
  have hl := hf.1
  have hpn := hf.2
  have HOK := Lib.hid (okPs_iff.1 hok)
  clear hf hok
  obtain ⟨A, capA, rfl, hcapA, hopA⟩ := pols_open h
  have HA := Lib.hid hopA
  have HLA := Lib.hid h
  clear hopA h
  go_enter Try.func32, Try.ntmps32
  go_wp2
  go_loopw [5, 6] (fun u i wr => ∃ k : Nat, k ≤ l.length ∧ i = .int .i64 k ∧ ∃ N : Int, u = .int .i64 N ∧ 0 ≤ N ∧ N ≤ 2048 ∧ Hid (nearTo l p N k) ∧ ∃ z : Kin w, z.1 = wr) (fun _ i _ => l.length - (intOf i).toNat)
  case atStart => exact ⟨0, Nat.zero_le _, rfl, 0, rfl, by omega, by omega, Lib.hid (nearTo_zero l p 0), ⟨w, Below.refl _ _⟩, rfl⟩
  case round =>
    obtain ⟨k, hk, rfl, N, rfl, hN0, hN1, HNT, z, rfl⟩ := hrel
    by_cases hlt : k < l.length
    · obtain ⟨o, ho⟩ : ∃ el_, (l)[k]? = some el_ := ⟨_, List.getElem?_eq_getElem (by first | exact hlt | omega)⟩
      obtain ⟨bA, offA, rfl, hbA, hcA⟩ := HA.out (k) _ ho
      have hbA2 : bA < w.heap.size + 1 := by omega
      obtain ⟨S, capS, o_0, hcapS, hrS⟩ := hcA (k) o ho
      have HLS := Lib.hid hrS
      have HAc := Lib.hid hcA
      have Ho := Lib.hid ho
      clear ho hrS hcA
      have hol : o.length ≤ 16384 := Nat.le_trans (ptsN_mem (List.mem_of_getElem? Ho.out)) hpn
      have HOO := Lib.hid (HOK.out o (List.mem_of_getElem? Ho.out))
      have HS := Lib.hid (Rd.op HLS.out)
      have HLS := Lib.hid HLS.out
      go_wp2
      go_loopw [5, 7] (fun u j wr => ∃ m : Nat, m ≤ o.length ∧ j = .int .i64 m ∧ ∃ N : Int, u = .int .i64 N ∧ 0 ≤ N ∧ N ≤ 2048 ∧ Hid (nearTo l p N k) ∧ Hid (nearPt o p N m) ∧ ∃ z : Kin w, z.1 = wr) (fun _ j _ => o.length - (intOf j).toNat)
      case atStart => exact ⟨0, Nat.zero_le _, rfl, N, rfl, hN0, hN1, HNT, Lib.hid (nearPt_zero o p N), z, rfl⟩
      case round =>
        obtain ⟨m, hm2, rfl, N, rfl, hN0, hN1, HNT, HNP, z2, rfl⟩ := hrel
        by_cases hlt2 : m < o.length
        · obtain ⟨q, hq⟩ : ∃ el_, (o)[m]? = some el_ := ⟨_, List.getElem?_eq_getElem (by first | exact hlt2 | omega)⟩
          obtain ⟨bS, offS, rfl, hbS, hcS⟩ := HS.out (m) _ hq
          have q_0 : w.cell? ⟨bS, offS + m * 2, none⟩ = some (.int .i64 q.1) := by exact hcS (m) _ hq 0 _ rfl
          have q_1 : w.cell? ⟨bS, offS + m * 2 + 1, none⟩ = some (.int .i64 q.2) := by exact hcS (m) _ hq 1 _ rfl
          have hbS2 : bS < w.heap.size + 1 := by omega
          have HSc := Lib.hid hcS
          have Hq := Lib.hid hq
          clear hq hcS
          have hq := okPt_iff.1 (HOO.out q (List.mem_of_getElem? Hq.out))
          go_wp2
          go_loopw [5] (fun u wr => ∃ N : Int, u = .int .i64 N ∧ 0 ≤ N ∧ N ≤ 2048 ∧ Hid (nearTo l p N k) ∧ Hid (nearPt o p N m) ∧ ∃ z3 : Kin (z2.1.alloc (.cells #[.int .i64 q.1, .int .i64 q.2] 24)), z3.1 = wr) (fun u _ => (2049 - intOf u).toNat)
          case atStart => exact ⟨N, rfl, hN0, hN1, HNT, HNP, ⟨_, Below.refl _ _⟩, rfl⟩
          case round =>
            obtain ⟨N, rfl, hN0, hN1, HNT, HNP, z3, rfl⟩ := hrel
            have hNp := mul_bd (x := N) (y := p) (M := 2048) (N := 1024) (by omega) (by omega)
            have hNq : 32 * N ≤ N * p := by rw [Int.mul_comm 32 N]; exact Int.mul_le_mul_of_nonneg_left hp.1 hN0
            have hw1 : IntKind.i64.wrap (N * p) = N * p := IntWalk.i64_in _ (by omega)
            have hw2 : IntKind.i64.wrap (-q.1) = -q.1 := IntWalk.i64_in _ (by omega)
            have hw3 : IntKind.i64.wrap (-q.2) = -q.2 := IntWalk.i64_in _ (by omega)
            have HNQ := Lib.hid (show ∀ (_ : ¬ N * p < q.1) (_ : ¬ N * p < -q.1) (_ : ¬ N * p < q.2) (_ : ¬ N * p < -q.2), nearPt o p N (m + 1) from fun a b c d => nearPt_succ HNP.out Hq.out (by omega))
            have HUP := Lib.hid (And.intro (nearTo_up (by omega : 0 ≤ p) HNT.out) (nearPt_up (by omega : 0 ≤ p) HNP.out))
            obtain ⟨M, hM⟩ : ∃ M, N * p = M := ⟨_, rfl⟩
            rw [hM] at hNp hNq hw1 HNQ
            have hw4 : IntKind.i64.wrap M = M := by rw [← hM] at hw1 ⊢; exact IntWalk.i64_in _ (by omega)
            rcases (show M < q.1 ∨ (¬ M < q.1 ∧ M < -q.1) ∨ (¬ M < q.1 ∧ ¬ M < -q.1 ∧ M < q.2) ∨ (¬ M < q.1 ∧ ¬ M < -q.1 ∧ ¬ M < q.2 ∧ M < -q.2) ∨ (¬ M < q.1 ∧ ¬ M < -q.1 ∧ ¬ M < q.2 ∧ ¬ M < -q.2) by omega) with c1 | ⟨c1, c2⟩ | ⟨c1, c2, c3⟩ | ⟨c1, c2, c3, c4⟩ | ⟨c1, c2, c3, c4⟩
            · have hN2 : N + 1 ≤ 2048 := by omega
              go_wp2
              go_roundw
              case rel => exact ⟨N + 1, by go_num, by omega, hN2, Lib.hid HUP.out.1, Lib.hid HUP.out.2, z3, rfl⟩
              case measure => simp [intOf]; omega
            · have hN2 : N + 1 ≤ 2048 := by omega
              go_wp2
              go_roundw
              case rel => exact ⟨N + 1, by go_num, by omega, hN2, Lib.hid HUP.out.1, Lib.hid HUP.out.2, z3, rfl⟩
              case measure => simp [intOf]; omega
            · have hN2 : N + 1 ≤ 2048 := by omega
              go_wp2
              go_roundw
              case rel => exact ⟨N + 1, by go_num, by omega, hN2, Lib.hid HUP.out.1, Lib.hid HUP.out.2, z3, rfl⟩
              case measure => simp [intOf]; omega
            · have hN2 : N + 1 ≤ 2048 := by omega
              go_wp2
              go_roundw
              case rel => exact ⟨N + 1, by go_num, by omega, hN2, Lib.hid HUP.out.1, Lib.hid HUP.out.2, z3, rfl⟩
              case measure => simp [intOf]; omega
            · have HN2 := Lib.hid (HNQ.out c1 c2 c3 c4)
              have HKK := Lib.hid (show Below w.heap.size w z3.1 from (by repeat (first | with_reducible (first | exact blA | exact blB | refine blC _ ?_ | refine blD ?_ ?_ _ | refine blE ?_ | refine blF _ ?_ | refine blG ?_ _ | refine blH ?_ | refine blI ?_ ?_ _) | (simp only [World.size_alloc]; omega) | (simp <;> omega))))
              go_wp2
              go_roundw
              case rel => exact ⟨m + 1, by omega, by go_num, N, rfl, hN0, hN1, HNT, HN2, ⟨z3.1, HKK.out⟩, rfl⟩
              case measure => simp [intOf]; omega
        · have HN2 := Lib.hid (nearTo_succ HNT.out Ho.out (by omega) HNP.out)
          go_wp2
          go_roundw
          case rel => exact ⟨k + 1, by omega, by go_num, N, rfl, hN0, hN1, HN2, z2, rfl⟩
          case measure => simp [intOf]; omega
    · have HNE := Lib.hid (near_mono (by omega : 0 ≤ p) (nearTo_all HNT.out (by omega)) (by omega : N ≤ N + 1))
      go_wp2
      go_ret
      exact ⟨⟨N + 1, rfl, HNE.out, by omega, by omega⟩, (by repeat (first | with_reducible (first | exact blA | exact blB | refine blC _ ?_ | refine blD ?_ ?_ _ | refine blE ?_ | refine blF _ ?_ | refine blG ?_ _ | refine blH ?_ | refine blI ?_ ?_ _) | (simp only [World.size_alloc]; omega) | (simp <;> omega)))⟩
theorem refCenter_is {c : P2} (x y p : Int) (w : World) (hc : cenR x y p = c) :
    Calls Try.prog 10 #[.agg #[.int .i64 x, .int .i64 y], .int .i64 p] w fun e w' => e = .returned (.agg #[.int .i64 c.1, .int .i64 c.2]) ∧ Below w.heap.size w w' := by subst hc; exact refCenter_any x y p w
theorem inside17_is {b : Bool} (v : Value) (l : List (List P2)) (p : P2) (w : World) (h : RdPols w v l) (hf : FewP l) (hok : okPs l = true) (hp : Planar.vld p = true) (hb : decide (0 < wind l p) = b) :
    Calls Try.prog 22 #[v, .agg #[.int .i64 p.1, .int .i64 p.2]] w fun e w' => e = .returned (.bool b) ∧ Below w.heap.size w w' := by subst hb; exact inside17_any v l p w h hf hok hp
theorem cen_is {x y p : Int} (hx : -4096 ≤ x ∧ x < 4096) (hy : -4096 ≤ y ∧ y < 4096) (hp : 32 ≤ p ∧ p ≤ 1024) : cenR x y p = (ctr x p, ctr y p) ∧ Planar.vld (ctr x p, ctr y p) = true := by
  have h1 := ctr_in hx hp
  have h2 := ctr_in hy hp
  exact ⟨by unfold cenR; rw [if_pos (cenOk_iff.2 ⟨hx, hy, hp⟩)], vld_of (by unfold ctr; simp only; omega)⟩
set_option maxHeartbeats 8000000 in
theorem refRow_any (v : Value) (l : List (List P2)) (p y : Int) (w : World) (h : RdPols w v l) (hf : FewP l) :
    Calls Try.prog 18 #[v, .int .i64 p, .int .i64 y] w fun e w' => (∃ u, e = .returned (.tuple #[u, .int .i64 (rowE l p y)]) ∧ Rd 2 encRun w' u (rowO l p y)) ∧ Below w.heap.size w w' := by
  have H := Lib.hid h
  have HF := Lib.hid hf
  obtain ⟨N, hN⟩ : ∃ N, rasE l p = N := ⟨_, rfl⟩
  have hcs := rasE_cases l p
  rw [hN] at hcs
  have HN := Lib.hid hN
  clear h hf
  by_cases hz : rowE l p y = 0
  · obtain ⟨h1, h2⟩ := rowE_zero.1 hz
    have e0 : rowO l p y = rowP l p y := by unfold rowO; rw [if_pos hz]
    obtain ⟨hpi, hok⟩ := rasE_zero.1 h1
    have hp := okPitch_iff.1 hpi
    have hp2 : 32 ≤ p ∧ p ≤ 1024 := ⟨hp.1, hp.2.1⟩
    have hy := okcI.1 h2
    have HOK := Lib.hid hok
    obtain rfl : N = 0 := by rw [← hN]; exact h1
    rw [hz, e0]
    have k1 : ¬ y < -4096 := by omega
    have k2 : ¬ 4096 ≤ y := by omega
    clear hz e0 h1 hpi hok hp hcs hN h2
    go_enter Try.func18, Try.ntmps18
    go_wp2_with (first
      | (go_at_call 31; (with_reducible refine (Kin.callK (W := w) (by repeat (first | with_reducible (first | exact blA | exact blB | refine blC _ ?_ | refine blD ?_ ?_ _ | refine blE ?_ | refine blF _ ?_ | refine blG ?_ _ | refine blH ?_ | refine blI ?_ ?_ _) | (simp only [World.size_alloc]; omega) | (simp <;> omega))) (check19_is _ l p _ (H.out.below (by repeat (first | with_reducible (first | exact blA | exact blB | refine blC _ ?_ | refine blD ?_ ?_ _ | refine blE ?_ | refine blF _ ?_ | refine blG ?_ _ | refine blH ?_ | refine blI ?_ ?_ _) | (simp only [World.size_alloc]; omega) | (simp <;> omega)))) HF.out HN.out)).mono ?_); rintro e w' ⟨z1, rfl, hz1, rfl⟩; skip)
      | (go_at_call 32; (with_reducible refine (Kin.callK (W := w) (by repeat (first | with_reducible (first | exact blA | exact blB | refine blC _ ?_ | refine blD ?_ ?_ _ | refine blE ?_ | refine blF _ ?_ | refine blG ?_ _ | refine blH ?_ | refine blI ?_ ?_ _) | (simp only [World.size_alloc]; omega) | (simp <;> omega))) (far_any _ l p _ (H.out.below (by repeat (first | with_reducible (first | exact blA | exact blB | refine blC _ ?_ | refine blD ?_ ?_ _ | refine blE ?_ | refine blF _ ?_ | refine blG ?_ _ | refine blH ?_ | refine blI ?_ ?_ _) | (simp only [World.size_alloc]; omega) | (simp <;> omega)))) HF.out HOK.out hp2)).mono ?_); rintro e w' ⟨z2, ⟨M, rfl, hM, hM1, hM2⟩, hz2, rfl⟩; (have HM := Lib.hid hM; clear hM)))
    have HFIN := Lib.hid (fun (n : Nat) (hn : (n : Int) = 2 * M + 1) => Ras.oneRow_is (l := l) (pitch := p) (N := M) (y := y) (n := n) (by omega) HM.out (by omega) hn)
    go_loopw [10, 11] (fun o i wr => ∃ k : Nat, (k : Int) ≤ 2 * M + 1 ∧ i = .int .i64 (-M + k) ∧ Hid (wr.ownsRow w.heap.size 46 2 o (Ras.oneRow l p M y k).length ((Ras.oneRow l p M y k).flatMap encRun)) ∧ ∃ z : Kin w, z.1 = wr) (fun _ i _ => (M + 1 - intOf i).toNat)
    case atStart => exact ⟨0, by omega, by simp, World.ownsRow_nil _ _ _ _, z2, rfl⟩
    case round =>
      obtain ⟨k, hk, rfl, HO, z, rfl⟩ := hrel
      have hol := oneRow_len l p M y k
      by_cases hlt : (k : Int) < 2 * M + 1
      · obtain ⟨x, hx⟩ : ∃ x : Int, -M + k = x := ⟨_, rfl⟩
        obtain ⟨hc1, hc2⟩ := cen_is (x := x) (y := y) (p := p) (by omega) hy hp2
        have HC1 := Lib.hid hc1
        have HC2 := Lib.hid hc2
        have HS := Lib.hid (oneRow_succ l p M y k)
        obtain ⟨b, hb⟩ : ∃ b, inP l p x y = b := ⟨_, rfl⟩
        have HB := Lib.hid (show decide (0 < wind l (ctr x p, ctr y p)) = b from hb)
        rw [hx] at HS ⊢
        rw [hb] at HS
        clear hc1 hc2 hb
        generalize hcx : (ctr x p, ctr y p) = cc at *
        clear hcx
        obtain ⟨cx, cy⟩ := cc
        have hx2 : x ≤ M := by omega
        have hxw : IntKind.i64.wrap (x + 1) = x + 1 := IntWalk.i64_in _ (by omega)
        cases b
        · go_wp2_with (first
            | (go_at_call 10; (with_reducible refine (Kin.callK (W := w) (by repeat (first | with_reducible (first | exact blA | exact blB | refine blC _ ?_ | refine blD ?_ ?_ _ | refine blE ?_ | refine blF _ ?_ | refine blG ?_ _ | refine blH ?_ | refine blI ?_ ?_ _) | (simp only [World.size_alloc]; omega) | (simp <;> omega))) (refCenter_is x y p _ HC1.out)).mono ?_); rintro e w' ⟨z3, rfl, hz3, rfl⟩; skip)
            | (go_at_call 22; (with_reducible refine (Kin.callK (W := w) (by repeat (first | with_reducible (first | exact blA | exact blB | refine blC _ ?_ | refine blD ?_ ?_ _ | refine blE ?_ | refine blF _ ?_ | refine blG ?_ _ | refine blH ?_ | refine blI ?_ ?_ _) | (simp only [World.size_alloc]; omega) | (simp <;> omega))) (inside17_is _ l (cx, cy) _ (H.out.below (by repeat (first | with_reducible (first | exact blA | exact blB | refine blC _ ?_ | refine blD ?_ ?_ _ | refine blE ?_ | refine blF _ ?_ | refine blG ?_ _ | refine blH ?_ | refine blI ?_ ?_ _) | (simp only [World.size_alloc]; omega) | (simp <;> omega)))) HF.out HOK.out HC2.out HB.out)).mono ?_); rintro e w' ⟨z4, rfl, hz4, rfl⟩; skip))
          go_roundw
          case rel => exact ⟨k + 1, by omega, by subst hx; go_num, Lib.hid (by rw [HS.out]; simpa using own_below (own_below HO.out hz3) hz4), z4, rfl⟩
          case measure => simp [intOf]; omega
        · go_wp2_with (first
            | (go_at_call 10; (with_reducible refine (Kin.callK (W := w) (by repeat (first | with_reducible (first | exact blA | exact blB | refine blC _ ?_ | refine blD ?_ ?_ _ | refine blE ?_ | refine blF _ ?_ | refine blG ?_ _ | refine blH ?_ | refine blI ?_ ?_ _) | (simp only [World.size_alloc]; omega) | (simp <;> omega))) (refCenter_is x y p _ HC1.out)).mono ?_); rintro e w' ⟨z3, rfl, hz3, rfl⟩; skip)
            | (go_at_call 22; (with_reducible refine (Kin.callK (W := w) (by repeat (first | with_reducible (first | exact blA | exact blB | refine blC _ ?_ | refine blD ?_ ?_ _ | refine blE ?_ | refine blF _ ?_ | refine blG ?_ _ | refine blH ?_ | refine blI ?_ ?_ _) | (simp only [World.size_alloc]; omega) | (simp <;> omega))) (inside17_is _ l (cx, cy) _ (H.out.below (by repeat (first | with_reducible (first | exact blA | exact blB | refine blC _ ?_ | refine blD ?_ ?_ _ | refine blE ?_ | refine blF _ ?_ | refine blG ?_ _ | refine blH ?_ | refine blI ?_ ?_ _) | (simp only [World.size_alloc]; omega) | (simp <;> omega)))) HF.out HOK.out HC2.out HB.out)).mono ?_); rintro e w' ⟨z4, rfl, hz4, rfl⟩; skip)
            | (at_builtin; refine wpList_app _ rfl _ _ 41 rfl encRun_len (by decide) oneR w.heap.size 46 (.agg #[.int .i64 0, .int .i64 0]) 16 infoRun rfl Try.underlying41 _ _ _ _ rfl ((own_below (own_below HO.out hz3) hz4).alloc _) _ _ _ rfl (rd_one _ encRun_len 46 (x, x + 1) _ rfl) ?c1 (by decide) ?c2 ?_; (case c1 => (first | (simp only [List.length_append, List.length_cons, List.length_nil]; omega) | omega | (simp; omega))); (case c2 => exact (by repeat (first | with_reducible exact Nat.le_refl _ | assumption | with_reducible refine le_alloc ?_ _ | with_reducible refine le_drew ?_ | with_reducible refine Kin.le _ ?_ | assumption | omega | (simp only [World.size_alloc]; omega)))); intro v' w1 hown' hg hbel hat'; (obtain ⟨yk, rfl⟩ : ∃ y : Kin w, y.1 = w1 := ⟨⟨w1, Below.trans (by repeat (first | with_reducible (first | exact blA | exact blB | refine blC _ ?_ | refine blD ?_ ?_ _ | refine blE ?_ | refine blF _ ?_ | refine blG ?_ _ | refine blH ?_ | refine blI ?_ ?_ _) | (simp only [World.size_alloc]; omega) | (simp <;> omega))) hbel⟩, rfl⟩); clear hbel hg hat'))
          go_roundw
          case rel => exact ⟨k + 1, by omega, by subst hx; go_num, Lib.hid (by rw [HS.out]; exact hown'), yk, rfl⟩
          case measure => simp [intOf]; omega
      · have HFI := Lib.hid (HFIN.out k (by omega))
        have HRD := Lib.hid (Rd.own encRun_len HO.out)
        go_wp2_with (go_at_call 34; (with_reducible refine (Kin.callK (W := w) (by repeat (first | with_reducible (first | exact blA | exact blB | refine blC _ ?_ | refine blD ?_ ?_ _ | refine blE ?_ | refine blF _ ?_ | refine blG ?_ _ | refine blH ?_ | refine blI ?_ ?_ _) | (simp only [World.size_alloc]; omega) | (simp <;> omega))) (normalR_any _ (Ras.oneRow l p M y k) _ (HRD.out.below (by repeat (first | with_reducible (first | exact blA | exact blB | refine blC _ ?_ | refine blD ?_ ?_ _ | refine blE ?_ | refine blF _ ?_ | refine blG ?_ _ | refine blH ?_ | refine blI ?_ ?_ _) | (simp only [World.size_alloc]; omega) | (simp <;> omega)))) (by omega))).mono ?_); rintro e w' ⟨z5, ⟨u, rfl, hu⟩, hz5, rfl⟩; (have HU := Lib.hid hu; clear hu))
        go_ret2
        exact ⟨⟨_, rfl, by rw [← HFI.out]; exact HU.out⟩, (by repeat (first | with_reducible (first | exact blA | exact blB | refine blC _ ?_ | refine blD ?_ ?_ _ | refine blE ?_ | refine blF _ ?_ | refine blG ?_ _ | refine blH ?_ | refine blI ?_ ?_ _) | (simp only [World.size_alloc]; omega) | (simp <;> omega)))⟩
  · have e0 : rowO l p y = [] := by unfold rowO; rw [if_neg hz]
    obtain ⟨M, hM⟩ : ∃ M, rowE l p y = M := ⟨_, rfl⟩
    have hc : (N = 1 ∧ M = 1) ∨ (N = 0 ∧ okC y = false ∧ M = 1) ∨ (N = 8 ∧ okC y = false ∧ M = 1) ∨ (N = 8 ∧ okC y = true ∧ M = 8) := by
      have h0 := hM
      unfold rowE at h0
      rw [hN] at h0
      have hz2 := hz
      rw [rowE_zero, hN] at hz2
      rcases hcs with rfl | rfl | rfl
      · right; left
        cases ho : okC y
        · rw [if_pos (.inr ho)] at h0; exact ⟨rfl, rfl, h0.symm⟩
        · exact absurd ⟨rfl, ho⟩ hz2
      · left
        rw [if_pos (.inl rfl)] at h0; exact ⟨rfl, h0.symm⟩
      · right; right
        cases ho : okC y
        · left; rw [if_pos (.inr ho)] at h0; exact ⟨rfl, rfl, h0.symm⟩
        · right; rw [if_neg (by simp [ho])] at h0; exact ⟨rfl, rfl, h0.symm⟩
    rw [e0, hM]
    clear e0 hM hz hcs hN
    have hok : ∀ b, okC y = b → (b = true ∧ ¬ y < -4096 ∧ ¬ 4096 ≤ y) ∨ (b = false ∧ y < -4096) ∨ (b = false ∧ ¬ y < -4096 ∧ 4096 ≤ y) := fun b hb => by
      have h5 := okcI (x := y)
      cases b
      · rw [hb] at h5; simp only [Bool.false_eq_true, false_iff] at h5; right; simp only [true_and]; omega
      · rw [hb] at h5; simp only [true_iff] at h5; left; exact ⟨rfl, by omega, by omega⟩
    have hc2 : (N = 1 ∧ M = 1) ∨ (N = 0 ∧ y < -4096 ∧ M = 1) ∨ (N = 0 ∧ ¬ y < -4096 ∧ 4096 ≤ y ∧ M = 1) ∨ (N = 8 ∧ y < -4096 ∧ M = 1) ∨ (N = 8 ∧ ¬ y < -4096 ∧ 4096 ≤ y ∧ M = 1) ∨ (N = 8 ∧ ¬ y < -4096 ∧ ¬ 4096 ≤ y ∧ M = 8) := by
      rcases hok _ rfl with ⟨h6, h7⟩ | ⟨h6, h7⟩ | ⟨h6, h7⟩ <;> rw [h6] at hc <;> simp only [Bool.true_eq_false, Bool.false_eq_true, false_and, and_false, false_or, or_false, true_and] at hc <;> omega
    clear hc hok
    rcases hc2 with ⟨rfl, rfl⟩ | ⟨rfl, h2, rfl⟩ | ⟨rfl, h2, h3, rfl⟩ | ⟨rfl, h2, rfl⟩ | ⟨rfl, h2, h3, rfl⟩ | ⟨rfl, h2, h3, rfl⟩
    all_goals
      go_enter Try.func18, Try.ntmps18
      go_wp2_with (go_at_call 31; (with_reducible refine (Kin.callK (W := w) (by repeat (first | with_reducible (first | exact blA | exact blB | refine blC _ ?_ | refine blD ?_ ?_ _ | refine blE ?_ | refine blF _ ?_ | refine blG ?_ _ | refine blH ?_ | refine blI ?_ ?_ _) | (simp only [World.size_alloc]; omega) | (simp <;> omega))) (check19_is _ l p _ (H.out.below (by repeat (first | with_reducible (first | exact blA | exact blB | refine blC _ ?_ | refine blD ?_ ?_ _ | refine blE ?_ | refine blF _ ?_ | refine blG ?_ _ | refine blH ?_ | refine blI ?_ ?_ _) | (simp only [World.size_alloc]; omega) | (simp <;> omega)))) HF.out HN.out)).mono ?_); rintro e w' ⟨z1, rfl, hz1, rfl⟩; skip)
      go_ret2
      exact ⟨⟨_, rfl, Rd.nil⟩, (by repeat (first | with_reducible (first | exact blA | exact blB | refine blC _ ?_ | refine blD ?_ ?_ _ | refine blE ?_ | refine blF _ ?_ | refine blG ?_ _ | refine blH ?_ | refine blI ?_ ?_ _) | (simp only [World.size_alloc]; omega) | (simp <;> omega)))⟩
end Go.Proofs.Ytbdmibbpojmkiaa

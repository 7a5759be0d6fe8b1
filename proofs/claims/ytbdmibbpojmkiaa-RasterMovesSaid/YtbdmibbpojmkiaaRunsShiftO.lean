/- What Shift returns lies in memory of its own. -/
import Derived.Test.YtbdmibbpojmkiaaRunsMoves
namespace Go.Proofs.Ytbdmibbpojmkiaa
set_option linter.unusedSimpArgs false
set_option linter.unusedVariables false
open Go.RowKit Runs
attribute [local go_sem] Kin.cell Kin.frozen Kin.lt0 Kin.lt1 Kin.lt2 Kin.lt3 run_mkf
set_option maxRecDepth 100000 in
set_option maxHeartbeats 4000000 in
theorem shift_own (v : Value) (l : List Run) (d : Int) (w : World) (h : Rd 2 encRun w v l) (hlen : l.length ≤ 68719476736) :
    Calls Try.prog 38 #[v, .int .i64 d] w fun e w' => (∃ u, e = .returned (.tuple #[u, .int .i64 (shiftE l d)]) ∧ w'.ownsRow w.heap.size 46 2 u (shiftL l d).length ((shiftL l d).flatMap encRun)) ∧ Below w.heap.size w w' := by
  obtain ⟨A, capA, rfl, hcapA, hopA⟩ := h.open_
  have HA := Lib.hid hopA
  have HLA := Lib.hid h
  clear hopA h
  cases hv : valid l
  · go_enter Try.func38, Try.ntmps38
    go_wp2_with (go_at_call 39; first | ((with_reducible refine (Kin.call _ (valid_any _ l _ (HLA.out.below (by repeat (first | with_reducible (first | exact blA | exact blB | refine blC _ ?_ | refine blD ?_ ?_ _ | refine blE ?_ | refine blF _ ?_ | refine blG ?_ _ | refine blH ?_ | refine blI ?_ ?_ _) | (simp only [World.size_alloc]; omega) | (simp <;> omega)))) (by omega))).mono ?_); rintro e w' ⟨z, rfl, rfl⟩) | ((with_reducible refine (Kin.call0 (valid_any _ l _ (HLA.out.below (by repeat (first | with_reducible (first | exact blA | exact blB | refine blC _ ?_ | refine blD ?_ ?_ _ | refine blE ?_ | refine blF _ ?_ | refine blG ?_ _ | refine blH ?_ | refine blI ?_ ?_ _) | (simp only [World.size_alloc]; omega) | (simp <;> omega)))) (by omega))).mono ?_); rintro e w' ⟨z, rfl, rfl⟩))
    go_ret2
    exact ⟨⟨.slice none 0 0, by simp [shiftE, hv], by simp only [shiftL, hv]; exact World.ownsRow_nil _ _ _ _⟩, (by repeat (first | with_reducible (first | exact blA | exact blB | refine blC _ ?_ | refine blD ?_ ?_ _ | refine blE ?_ | refine blF _ ?_ | refine blG ?_ _ | refine blH ?_ | refine blI ?_ ?_ _) | (simp only [World.size_alloc]; omega) | (simp <;> omega)))⟩
  · by_cases h0 : l.length = 0
    · have hl : l = [] := List.eq_nil_of_length_eq_zero h0
      subst hl
      simp only [List.length_nil] at HLA ⊢
      go_enter Try.func38, Try.ntmps38
      go_wp2_with (go_at_call 39; first | ((with_reducible refine (Kin.call _ (valid_any _ [] _ (HLA.out.below (by repeat (first | with_reducible (first | exact blA | exact blB | refine blC _ ?_ | refine blD ?_ ?_ _ | refine blE ?_ | refine blF _ ?_ | refine blG ?_ _ | refine blH ?_ | refine blI ?_ ?_ _) | (simp only [World.size_alloc]; omega) | (simp <;> omega)))) (by omega))).mono ?_); rintro e w' ⟨z, rfl, rfl⟩) | ((with_reducible refine (Kin.call0 (valid_any _ [] _ (HLA.out.below (by repeat (first | with_reducible (first | exact blA | exact blB | refine blC _ ?_ | refine blD ?_ ?_ _ | refine blE ?_ | refine blF _ ?_ | refine blG ?_ _ | refine blH ?_ | refine blI ?_ ?_ _) | (simp only [World.size_alloc]; omega) | (simp <;> omega)))) (by omega))).mono ?_); rintro e w' ⟨z, rfl, rfl⟩))
      go_ret2
      exact ⟨⟨.slice none 0 0, by simp [shiftE, shiftOk, hv], by simp [shiftL, shiftOk]; exact World.ownsRow_nil _ _ _ _⟩, (by repeat (first | with_reducible (first | exact blA | exact blB | refine blC _ ?_ | refine blD ?_ ?_ _ | refine blE ?_ | refine blF _ ?_ | refine blG ?_ _ | refine blH ?_ | refine blI ?_ ?_ _) | (simp only [World.size_alloc]; omega) | (simp <;> omega)))⟩
    · obtain ⟨n, hn⟩ : ∃ n, l.length = n + 1 := ⟨l.length - 1, by omega⟩
      obtain ⟨r, hr⟩ : ∃ el_, (l)[0]? = some el_ := ⟨_, List.getElem?_eq_getElem (by first | exact (by omega) | omega)⟩
      obtain ⟨bA, offA, rfl, hbA, hcA⟩ := HA.out (0) _ hr
      have r_0 : w.cell? ⟨bA, offA + 0 * 2, none⟩ = some (.int .i64 r.1) := by exact hcA (0) _ hr 0 _ rfl
      have r_1 : w.cell? ⟨bA, offA + 0 * 2 + 1, none⟩ = some (.int .i64 r.2) := by exact hcA (0) _ hr 1 _ rfl
      have hbA2 : bA < w.heap.size + 1 := by omega
      have HAc := Lib.hid hcA
      have Hr := Lib.hid hr
      clear hr hcA
      obtain ⟨q, hq⟩ : ∃ el_, (l)[n]? = some el_ := ⟨_, List.getElem?_eq_getElem (by first | exact (by omega) | omega)⟩
      have q_0 : w.cell? ⟨bA, offA + n * 2, none⟩ = some (.int .i64 q.1) := by exact HAc.out (n) _ hq 0 _ rfl
      have q_1 : w.cell? ⟨bA, offA + n * 2 + 1, none⟩ = some (.int .i64 q.2) := by exact HAc.out (n) _ hq 1 _ rfl
      have Hq := Lib.hid hq
      clear hq
      simp only [Nat.zero_mul, Nat.add_zero] at r_0 r_1
      have hfr := valid_fits hv Hr.out
      have hfq := valid_fits hv Hq.out
      have Hb := Lib.hid (fun h => shift_bad (d := d) hv hn Hr.out Hq.out h)
      have Hg := Lib.hid (fun h => shift_good (d := d) hv hn Hr.out Hq.out h)
      have Hn := Lib.hid hn
      have hlen2 : n + 1 ≤ 68719476736 := by omega
      rw [hn]
      rw [hn] at HLA hcapA
      clear hn h0 hlen
      go_enter Try.func38, Try.ntmps38
      go_wp2_with (first | (go_at_call 39; first | ((with_reducible refine (Kin.call _ (valid_any _ l _ (HLA.out.below (by repeat (first | with_reducible (first | exact blA | exact blB | refine blC _ ?_ | refine blD ?_ ?_ _ | refine blE ?_ | refine blF _ ?_ | refine blG ?_ _ | refine blH ?_ | refine blI ?_ ?_ _) | (simp only [World.size_alloc]; omega) | (simp <;> omega)))) (by have := Hn.out; omega))).mono ?_); rintro e w' ⟨z, rfl, rfl⟩) | ((with_reducible refine (Kin.call0 (valid_any _ l _ (HLA.out.below (by repeat (first | with_reducible (first | exact blA | exact blB | refine blC _ ?_ | refine blD ?_ ?_ _ | refine blE ?_ | refine blF _ ?_ | refine blG ?_ _ | refine blH ?_ | refine blI ?_ ?_ _) | (simp only [World.size_alloc]; omega) | (simp <;> omega)))) (by have := Hn.out; omega))).mono ?_); rintro e w' ⟨z, rfl, rfl⟩)) | (at_make; refine wpList_mk _ rfl _ _ 41 rfl encRun_len (by decide) (0, 0) w.heap.size 46 (.agg #[.int .i64 0, .int .i64 0]) 16 rfl infoRun Try.underlying41 .i64 .i64 _ _ (n + 1) rfl rfl (by omega) (by omega) (by omega) (by decide) (by repeat (first | with_reducible exact Nat.le_refl _ | assumption | with_reducible refine le_alloc ?_ _ | with_reducible refine le_drew ?_ | with_reducible refine Kin.le _ ?_ | assumption | omega | (simp only [World.size_alloc]; omega))) ?_; intro w1 hmk hmb hmlt; (obtain ⟨y, rfl⟩ : ∃ y : Kin w, y.1 = w1 := ⟨⟨w1, Below.trans (by repeat (first | with_reducible (first | exact blA | exact blB | refine blC _ ?_ | refine blD ?_ ?_ _ | refine blE ?_ | refine blF _ ?_ | refine blG ?_ _ | refine blH ?_ | refine blI ?_ ?_ _) | (simp only [World.size_alloc]; omega) | (simp <;> omega))) (hmb.mono (by repeat (first | with_reducible exact Nat.le_refl _ | assumption | with_reducible refine le_alloc ?_ _ | with_reducible refine le_drew ?_ | with_reducible refine Kin.le _ ?_ | assumption | omega | (simp only [World.size_alloc]; omega))))⟩, rfl⟩); clear hmb))
      all_goals first
        | (go_ret2
           have hb := Hb.out (by omega)
           exact ⟨⟨.slice none 0 0, by simp [shiftE, hv, hb], by simp only [shiftL, hb, Bool.and_false]; exact World.ownsRow_nil _ _ _ _⟩, (by repeat (first | with_reducible (first | exact blA | exact blB | refine blC _ ?_ | refine blD ?_ ?_ _ | refine blE ?_ | refine blF _ ?_ | refine blG ?_ _ | refine blH ?_ | refine blI ?_ ?_ _) | (simp only [World.size_alloc]; omega) | (simp <;> omega)))⟩)
        | skip
      obtain ⟨g, hg⟩ : ∃ g, g = z.1.heap.size := ⟨_, rfl⟩
      rw [← hg] at hmk hmlt ⊢
      have hgw : w.heap.size ≤ g := by rw [hg]; exact z.2.size
      clear hg
      go_loopw [50] (fun i wr => ∃ k : Nat, k ≤ n + 1 ∧ i = .int .i64 k ∧ ∃ y : Kin w, y.1 = wr ∧ g < wr.heap.size ∧ wr.ownsRow w.heap.size 46 2 (.slice (some ⟨g, 0, none⟩) (n + 1) (n + 1)) (n + 1) ((upd (sh d) (0, 0) l k).flatMap encRun)) (fun i _ => n + 1 - (intOf i).toNat)
      case atStart => exact ⟨0, Nat.zero_le _, rfl, y, rfl, hmlt, by rw [upd_zero, Hn.out]; exact hmk⟩
      case round =>
        clear hmk hmlt
        obtain ⟨k, hk, rfl, y, rfl, hgy, hown⟩ := hrel
        by_cases hlt : k < n + 1
        · have hcell := HAc.out
          obtain ⟨x, hx⟩ : ∃ x, l[k]? = some x := ⟨_, List.getElem?_eq_getElem (by rw [Hn.out]; exact hlt)⟩
          have x_0 : w.cell? ⟨bA, offA + k * 2, none⟩ = some (.int .i64 x.1) := hcell k x hx 0 _ rfl
          have x_1 : w.cell? ⟨bA, offA + k * 2 + 1, none⟩ = some (.int .i64 x.2) := hcell k x hx 1 _ rfl
          have hfx := valid_fits hv hx
          have Hx := Lib.hid hx
          clear hx hcell
          obtain ⟨u0, g0⟩ := own_some hown (k * 2) (by omega)
          obtain ⟨u1, g1⟩ := own_some hown (k * 2 + 1) (by omega)
          have f0 : y.1.frozen? ⟨g, k * 2, none⟩ = false := hown.frozenAt _
          have f1 : y.1.frozen? ⟨g, k * 2 + 1, none⟩ = false := hown.frozenAt _
          have HW := Lib.hid hown
          clear hown
          have hg2 : g < y.1.heap.size + 1 := by omega
          go_wp2
          go_roundw
          case rel => exact ⟨k + 1, by omega, by go_num, ⟨World.alloc _ _, (by repeat (first | with_reducible (first | exact blA | exact blB | refine blC _ ?_ | refine blD ?_ ?_ _ | refine blE ?_ | refine blF _ ?_ | refine blG ?_ _ | refine blH ?_ | refine blI ?_ ?_ _) | (simp only [World.size_alloc]; omega) | (simp <;> omega)))⟩, rfl, by simp; omega, by rw [upd_succ Hx.out]; exact (own_set (y := sh d x) encRun_len rfl HW.out k hlt).alloc _⟩
          case measure => simp [intOf]; omega
        · go_wp2
          go_ret2
          have hk4 : k = l.length := by rw [Hn.out]; omega
          have hok := Hg.out (by omega) (by omega)
          refine ⟨⟨.slice (some ⟨g, 0, none⟩) (n + 1) (n + 1), by simp [shiftE, hv, hok], ?_⟩, (by repeat (first | with_reducible (first | exact blA | exact blB | refine blC _ ?_ | refine blD ?_ ?_ _ | refine blE ?_ | refine blF _ ?_ | refine blG ?_ _ | refine blH ?_ | refine blI ?_ ?_ _) | (simp only [World.size_alloc]; omega) | (simp <;> omega)))⟩
          simp only [shiftL, hv, hok, Bool.and_self, if_true]
          rw [hk4, upd_all] at hown
          have hnl : n + 1 = (l.map (sh d)).length := by rw [List.length_map]; exact Hn.out.symm
          rw [← hnl]
          exact hown
end Go.Proofs.Ytbdmibbpojmkiaa

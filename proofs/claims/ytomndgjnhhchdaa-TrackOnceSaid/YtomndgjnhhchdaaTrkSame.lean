/- Comparisons of tracks, walked at equal ones; path, few of the laws. -/
import Derived.Test.YtomndgjnhhchdaaTrkMem
namespace Go.Proofs.Ytomndgjnhhchdaa
set_option linter.unusedSimpArgs false
set_option linter.unusedVariables false
set_option maxRecDepth 100000
open Go.RowKit Trk
attribute [local go_sem] Kin.cell Kin.frozen Kin.lt0 Kin.lt1 Kin.lt2 Kin.lt3
theorem neq_selfC (x y : Int) (w : World) : (binOp .neq 31 (.agg #[.int .i64 x, .int .i64 y]) (.agg #[.int .i64 x, .int .i64 y])).run Try.prog w = .ok (.bool false) w := by
  simp [go_sem]
set_option maxHeartbeats 4000000 in
theorem cells_true (u v : Value) (l : List Cl) (w : World) (h : Rd 2 encPt w u l) (h2 : Rd 2 encPt w v l) (hlen : l.length ≤ 1099511627776) :
    Calls Try.prog 15 #[u, v] w fun e w' => e = .returned (.bool true) ∧ Below w.heap.size w w' := by
  obtain ⟨A, capA, rfl, hcapA, hopA⟩ := h.open_
  have HA := Lib.hid hopA
  have HLA := Lib.hid h
  clear hopA h
  obtain ⟨B, capB, rfl, hcapB, hopB⟩ := h2.open_
  have HB := Lib.hid hopB
  have HLB := Lib.hid h2
  clear hopB h2
  have hre := neq_selfC
  obtain ⟨n, hL⟩ : ∃ n, l.length = n := ⟨_, rfl⟩
  have HL := Lib.hid hL
  rw [hL] at hcapA HLA hcapB HLB hlen ⊢
  clear hL
  go_enter Try.func15, Try.ntmps15
  go_wp2
  go_loopw [13] (fun i wr => ∃ k : Nat, k ≤ n ∧ i = .int .i64 k ∧ ∃ y : Kin w, y.1 = wr) (fun i _ => n - (intOf i).toNat)
  case atStart => exact ⟨0, Nat.zero_le _, rfl, ⟨w, Below.refl _ _⟩, rfl⟩
  case round =>
    obtain ⟨k, hk, rfl, y, rfl⟩ := hrel
    by_cases hlt : k < n
    · obtain ⟨p, hp⟩ : ∃ el_, (l)[k]? = some el_ := ⟨_, List.getElem?_eq_getElem (by first | exact (by rw [HL.out]; exact hlt) | omega)⟩
      obtain ⟨bA, offA, rfl, hbA, hcA⟩ := HA.out (k) _ hp
      have p_0 : w.cell? ⟨bA, offA + k * 2, none⟩ = some (.int .i64 p.1) := by exact hcA (k) _ hp 0 _ rfl
      have p_1 : w.cell? ⟨bA, offA + k * 2 + 1, none⟩ = some (.int .i64 p.2) := by exact hcA (k) _ hp 1 _ rfl
      have hbA2 : bA < w.heap.size + 1 := by omega
      have HAc := Lib.hid hcA
      have Hp := Lib.hid hp
      clear hp hcA
      obtain ⟨bB, offB, rfl, hbB, hcB⟩ := HB.out k p Hp.out
      have q_0 : w.cell? ⟨bB, offB + k * 2, none⟩ = some (.int .i64 p.1) := hcB k p Hp.out 0 _ rfl
      have q_1 : w.cell? ⟨bB, offB + k * 2 + 1, none⟩ = some (.int .i64 p.2) := hcB k p Hp.out 1 _ rfl
      clear hcB
      go_wp2
      ((refine wp_region_kinK (W := w) (by kernel_rfl) (by kernel_rfl) (by repeat (first | with_reducible (first | exact blA | exact blB | refine blC _ ?_ | refine blD ?_ ?_ _ | refine blE ?_ | refine blF _ ?_ | refine blG ?_ _ | refine blH ?_ | refine blI ?_ ?_ _) | (simp only [World.size_alloc]; omega) | (simp <;> omega))) ?_); (repeat' (first | go_big_quiet_step (fail) | ((refine wpQuiet_guard rfl rfl rfl rfl (fun hg => ?_) (fun hg => ?_)) <;> (fail_if_success (first | guard_hyp hg : true = true | guard_hyp hg : false = false)) <;> (try simp only [decide_eq_true_eq, decide_eq_false_iff_not] at hg) <;> simp only [Act.put, List.setIfInBounds_toArray, List.set_cons_zero, List.set_cons_succ]))); all_goals ((with_reducible refine wpQuiet_nil ?_); intro zq hz))
      go_wp2
      go_roundw
      case rel => exact ⟨k + 1, by omega, by go_num, zq, rfl⟩
      case measure => simp [intOf]; omega
    · go_wp2
      go_ret
      exact ⟨rfl, (by repeat (first | with_reducible (first | exact blA | exact blB | refine blC _ ?_ | refine blD ?_ ?_ _ | refine blE ?_ | refine blF _ ?_ | refine blG ?_ _ | refine blH ?_ | refine blI ?_ ?_ _) | (simp only [World.size_alloc]; omega) | (simp <;> omega)))⟩
set_option maxHeartbeats 4000000 in
theorem same_true (r : Int) (cl : Bool) (A B : Option Addr) (cA cB : Nat) (l : List Cl) {n : Nat} (w : World) (hn : l.length = n) (h : Rd 2 encPt w (.slice A n cA) l) (h2 : Rd 2 encPt w (.slice B n cB) l) (hlen : n ≤ 1099511627776) :
    Calls Try.prog 30 #[tv r cl A n cA, tv r cl B n cB] w fun e w' => e = .returned (.bool true) ∧ Below w.heap.size w w' := by
  have HL := Lib.hid hn
  have HA := Lib.hid (Rd.op h)
  have HLA := Lib.hid h
  clear h
  have HB := Lib.hid (Rd.op h2)
  have HLB := Lib.hid h2
  clear h2
  have hre := neq_selfC
  clear hn
  obtain ⟨W2, hW2⟩ : ∃ W2, W2 = (w.alloc (.cells #[.int .i64 r, .bool cl, .slice A n cA] 24)).alloc (.cells #[.int .i64 r, .bool cl, .slice B n cB] 24) := ⟨_, rfl⟩
  have HB1 := Lib.hid (show Blk W2 w.heap.size 24 #[.int .i64 r, .bool cl, .slice A n cA] from hW2 ▸ (Blk.new w _ _).below (Below.alloc (Below.refl _ _) (Nat.le_refl _) _))
  have HB2 := Lib.hid (show Blk W2 (w.heap.size + 1) 24 #[.int .i64 r, .bool cl, .slice B n cB] from hW2 ▸ (by have := Blk.new (w.alloc (.cells #[.int .i64 r, .bool cl, .slice A n cA] 24)) 24 #[.int .i64 r, .bool cl, .slice B n cB]; rwa [World.size_alloc] at this))
  have HBW := Lib.hid (show Below w.heap.size w W2 from hW2 ▸ (by repeat (first | with_reducible (first | exact blA | exact blB | refine blC _ ?_ | refine blD ?_ ?_ _ | refine blE ?_ | refine blF _ ?_ | refine blG ?_ _ | refine blH ?_ | refine blI ?_ ?_ _) | (simp only [World.size_alloc]; omega) | (simp <;> omega))))
  have a2 : W2.cell? ⟨w.heap.size, 2, none⟩ = some (.slice A n cA) := HB1.out.cell 2
  have b2 : W2.cell? ⟨w.heap.size + 1, 2, none⟩ = some (.slice B n cB) := HB2.out.cell 2
  have al := HB1.out.lt
  have bl := HB2.out.lt
  go_enter Try.func30, Try.ntmps30
  go_wp2
  rw [← hW2]
  clear hW2
  go_loopw [30] (fun i wr => ∃ k : Nat, k ≤ n ∧ i = .int .i64 k ∧ ∃ y : Kin W2, y.1 = wr) (fun i _ => n - (intOf i).toNat)
  case atStart => exact ⟨0, Nat.zero_le _, rfl, ⟨W2, Below.refl _ _⟩, rfl⟩
  case round =>
    obtain ⟨k, hk, rfl, y, rfl⟩ := hrel
    by_cases hlt : k < n
    · obtain ⟨p, hp⟩ : ∃ el_, (l)[k]? = some el_ := ⟨_, List.getElem?_eq_getElem (by first | exact (by rw [HL.out]; exact hlt) | omega)⟩
      obtain ⟨bA, offA, rfl, hbA, hcA⟩ := HA.out (k) _ hp
      have p_0 : w.cell? ⟨bA, offA + k * 2, none⟩ = some (.int .i64 p.1) := by exact hcA (k) _ hp 0 _ rfl
      have p_1 : w.cell? ⟨bA, offA + k * 2 + 1, none⟩ = some (.int .i64 p.2) := by exact hcA (k) _ hp 1 _ rfl
      have hbA2 : bA < w.heap.size + 1 := by omega
      have HAc := Lib.hid hcA
      have Hp := Lib.hid hp
      clear hp hcA
      obtain ⟨bB, offB, rfl, hbB, hcB⟩ := HB.out k p Hp.out
      have q_0 : W2.cell? ⟨bB, offB + k * 2, none⟩ = some (.int .i64 p.1) := (HBW.out.cell (p := ⟨bB, _, none⟩) hbB).trans (hcB k p Hp.out 0 _ rfl)
      have q_1 : W2.cell? ⟨bB, offB + k * 2 + 1, none⟩ = some (.int .i64 p.2) := (HBW.out.cell (p := ⟨bB, _, none⟩) hbB).trans (hcB k p Hp.out 1 _ rfl)
      have s_0 : W2.cell? ⟨bA, offA + k * 2, none⟩ = some (.int .i64 p.1) := (HBW.out.cell (p := ⟨bA, _, none⟩) hbA).trans p_0
      have s_1 : W2.cell? ⟨bA, offA + k * 2 + 1, none⟩ = some (.int .i64 p.2) := (HBW.out.cell (p := ⟨bA, _, none⟩) hbA).trans p_1
      have hb1 : bA < W2.heap.size := Nat.lt_of_lt_of_le hbA HBW.out.size
      have hb2 : bB < W2.heap.size := Nat.lt_of_lt_of_le hbB HBW.out.size
      clear hcB p_0 p_1 hbA2
      go_wp2
      ((refine wp_region_kinK (W := W2) (by kernel_rfl) (by kernel_rfl) (by repeat (first | with_reducible (first | exact blA | exact blB | refine blC _ ?_ | refine blD ?_ ?_ _ | refine blE ?_ | refine blF _ ?_ | refine blG ?_ _ | refine blH ?_ | refine blI ?_ ?_ _) | (simp only [World.size_alloc]; omega) | (simp <;> omega))) ?_); (repeat' (first | go_big_quiet_step (fail) | ((refine wpQuiet_guard rfl rfl rfl rfl (fun hg => ?_) (fun hg => ?_)) <;> (fail_if_success (first | guard_hyp hg : true = true | guard_hyp hg : false = false)) <;> (try simp only [decide_eq_true_eq, decide_eq_false_iff_not] at hg) <;> simp only [Act.put, List.setIfInBounds_toArray, List.set_cons_zero, List.set_cons_succ]))); all_goals ((with_reducible refine wpQuiet_nil ?_); intro zq hz))
      go_wp2
      go_roundw
      case rel => exact ⟨k + 1, by omega, by go_num, zq, rfl⟩
      case measure => simp [intOf]; omega
    · go_wp2
      go_ret
      exact ⟨rfl, HBW.out.trans (y.2.mono HBW.out.size)⟩
set_option maxHeartbeats 4000000 in
theorem sameAll_true (u v : Value) (l : List Tr) (w : World) (h : RdTrs w u l) (h2 : RdTrs w v l) (hlen : l.length ≤ 1099511627776) (hb : ∀ t ∈ l, t.2.length ≤ 1099511627776) :
    Calls Try.prog 25 #[u, v] w fun e w' => e = .returned (.bool true) ∧ Below w.heap.size w w' := by
  obtain ⟨A, capA, rfl, hcapA, hopA⟩ := trks_open h
  obtain ⟨B, capB, rfl, hcapB, hopB⟩ := trks_open h2
  have HA := Lib.hid hopA
  have HB := Lib.hid hopB
  have HBB := Lib.hid hb
  obtain ⟨n, hL⟩ : ∃ n, l.length = n := ⟨_, rfl⟩
  have HL := Lib.hid hL
  rw [hL] at hcapA hcapB hlen ⊢
  clear hL hopA hopB h h2 hb
  go_enter Try.func25, Try.ntmps25
  go_wp2
  go_loopw [13] (fun i wr => ∃ k : Nat, k ≤ n ∧ i = .int .i64 k ∧ ∃ y : Kin w, y.1 = wr) (fun i _ => n - (intOf i).toNat)
  case atStart => exact ⟨0, Nat.zero_le _, rfl, ⟨w, Below.refl _ _⟩, rfl⟩
  case round =>
    obtain ⟨k, hk, rfl, y, rfl⟩ := hrel
    by_cases hlt : k < n
    · obtain ⟨t, ht⟩ : ∃ t, l[k]? = some t := ⟨_, List.getElem?_eq_getElem (by rw [HL.out]; exact hlt)⟩
      obtain ⟨bA, offA, rfl, hbA, hcA⟩ := HA.out k t ht
      obtain ⟨S, capS, t_0, t_1, t_2, hcapS, hrS⟩ := hcA k t ht
      obtain ⟨bB, offB, rfl, hbB, hcB⟩ := HB.out k t ht
      obtain ⟨T, capT, u_0, u_1, u_2, hcapT, hrT⟩ := hcB k t ht
      have hlt2 := HBB.out t (List.mem_of_getElem? ht)
      obtain ⟨⟨r, cl⟩, cs⟩ := t
      simp only at t_0 t_1 t_2 u_0 u_1 u_2 hcapS hrS hcapT hrT hlt2
      obtain ⟨nt, hnt⟩ : ∃ nt, cs.length = nt := ⟨_, rfl⟩
      have HNT := Lib.hid hnt
      rw [hnt] at t_2 u_2 hcapS hrS hcapT hrT hlt2
      have HLS := Lib.hid hrS
      have HLT := Lib.hid hrT
      clear hnt hrS hrT hcA hcB ht
      go_wp2
      ((refine wp_region_kinK (W := w) (by kernel_rfl) (by kernel_rfl) (by repeat (first | with_reducible (first | exact blA | exact blB | refine blC _ ?_ | refine blD ?_ ?_ _ | refine blE ?_ | refine blF _ ?_ | refine blG ?_ _ | refine blH ?_ | refine blI ?_ ?_ _) | (simp only [World.size_alloc]; omega) | (simp <;> omega))) ?_); (repeat' (first | go_big_quiet_step ((go_at_call 30; exact Kin.quiet _ (same_true r cl S T capS capT cs _ HNT.out (HLS.out.below (by repeat (first | with_reducible (first | exact blA | exact blB | refine blC _ ?_ | refine blD ?_ ?_ _ | refine blE ?_ | refine blF _ ?_ | refine blG ?_ _ | refine blH ?_ | refine blI ?_ ?_ _) | (simp only [World.size_alloc]; omega) | (simp <;> omega)))) (HLT.out.below (by repeat (first | with_reducible (first | exact blA | exact blB | refine blC _ ?_ | refine blD ?_ ?_ _ | refine blE ?_ | refine blF _ ?_ | refine blG ?_ _ | refine blH ?_ | refine blI ?_ ?_ _) | (simp only [World.size_alloc]; omega) | (simp <;> omega)))) hlt2))) | ((refine wpQuiet_guard rfl rfl rfl rfl (fun hg => ?_) (fun hg => ?_)) <;> (fail_if_success (first | guard_hyp hg : true = true | guard_hyp hg : false = false)) <;> (try simp only [decide_eq_true_eq, decide_eq_false_iff_not] at hg) <;> simp only [Act.put, List.setIfInBounds_toArray, List.set_cons_zero, List.set_cons_succ]))); all_goals ((with_reducible refine wpQuiet_nil ?_); intro zq hz))
      go_wp2
      go_roundw
      case rel => exact ⟨k + 1, by omega, by go_num, zq, rfl⟩
      case measure => simp [intOf]; omega
    · go_wp2
      go_ret
      exact ⟨rfl, (by repeat (first | with_reducible (first | exact blA | exact blB | refine blC _ ?_ | refine blD ?_ ?_ _ | refine blE ?_ | refine blF _ ?_ | refine blG ?_ _ | refine blH ?_ | refine blI ?_ ?_ _) | (simp only [World.size_alloc]; omega) | (simp <;> omega)))⟩
set_option maxHeartbeats 1000000 in
theorem path_is (cl : Bool) (A : Option Addr) (n c : Nat) (w : World) : Calls Try.prog 33 #[.bool cl, .slice A n c] w fun e w' => e = .returned (tv 1 cl A n c) ∧ Below w.heap.size w w' := by
  go_enter Try.func33, Try.ntmps33
  go_wp2
  ((try simp only [Exit.inBlock, Exit.then]); refine bodyPost_ret (results_cell_row rfl _ _ _ _ _ (0, 0) _ rfl (Blk.new w 24 #[.int .i64 1, .bool cl, .slice A n c]) Try.underlying24 rfl (by kernel_rfl)) rfl ?_)
  exact ⟨rfl, (by repeat (first | with_reducible (first | exact blA | exact blB | refine blC _ ?_ | refine blD ?_ ?_ _ | refine blE ?_ | refine blF _ ?_ | refine blG ?_ _ | refine blH ?_ | refine blI ?_ ?_ _) | (simp only [World.size_alloc]; omega) | (simp <;> omega)))⟩
end Go.Proofs.Ytomndgjnhhchdaa

/- What DilateCross returns. -/
import Derived.Test.YtjppaknajdbkgaaMorphDia
namespace Go.Proofs.Ytjppaknajdbkgaa
set_option linter.unusedSimpArgs false
set_option linter.unusedVariables false
open Go.RowKit Runs Reg
attribute [local go_sem] Kin.cell Kin.frozen Kin.lt0 Kin.lt1 Kin.lt2 Kin.lt3 run_mkf run_mkmap run_storeF
set_option maxRecDepth 100000 in
set_option maxHeartbeats 8000000 in
/-- the rows of a region as a map -/
theorem rowsmap_any (v : Value) (rows : List Reg.Row) (w : World) (h : RdReg w v rows) (hv : VReg rows) :
    Calls Try.prog 55 #[v] w fun e w' => (∃ b n f, e = .returned (.map (some b)) ∧ w.heap.size ≤ b ∧ MapF w' b n f ∧ ∀ y, Rd 2 encRun w' (f y) (rwAt rows y)) ∧ Below w.heap.size w w' := by
  have H := Lib.hid h
  have HVR := Lib.hid hv
  have hlr := (vreg_len hv).1
  obtain ⟨A, capA, rfl⟩ := h.slice_
  have HW0 := Lib.hid (rows_op (by have := h; obtain ⟨s, e, h⟩ := this; cases e; exact h : RdRows w (.slice A rows.length capA) rows))
  clear h hv
  go_enter Try.func55, Try.ntmps55
  go_wp2
  obtain ⟨yb, hX⟩ : ∃ yb : Kin w, yb.1 = w.alloc (.cells #[.slice A rows.length capA] 24) := ⟨⟨w.alloc (.cells #[.slice A rows.length capA] 24), (by repeat (first | with_reducible (first | exact blA | exact blB | refine blC _ ?_ | refine blD ?_ ?_ _ | refine blE ?_ | refine blF _ ?_ | refine blG ?_ _ | refine blH ?_ | refine blI ?_ ?_ _) | (simp only [World.size_alloc]; omega) | (simp <;> omega)))⟩, rfl⟩
  rw [← hX]
  have HBX := Lib.hid (show Blk yb.1 w.heap.size 24 #[.slice A rows.length capA] from hX ▸ Blk.new _ _ _)
  have hbs : w.heap.size < yb.1.heap.size := HBX.out.lt
  have hsz : w.heap.size + 1 = yb.1.heap.size := by rw [hX]; simp
  clear hX
  have hm0 : MapF (yb.1.alloc (.map #[] 0)) (w.heap.size + 1) 0 (fun _ => .slice none 0 0) := by rw [hsz]; exact MapF.made yb.1
  have HM0 := Lib.hid hm0
  have hsl : w.heap.size ≤ w.heap.size + 1 := Nat.le_succ _
  clear hm0 hsz
  go_loopw [10] (fun i wr => ∃ j : Nat, j ≤ rows.length ∧ i = .int .i64 j ∧ ∃ f, Hid (MapF wr (w.heap.size + 1) j f) ∧ Hid (∀ y, Rd 2 encRun wr (f y) (rwAt (rows.take j) y)) ∧ Hid (Below w.heap.size w wr)) (fun i _ => rows.length - (intOf i).toNat)
  case atStart => exact ⟨0, Nat.zero_le _, rfl, _, HM0, Lib.hid (fun y => by rw [List.take_zero, rwAt_nil]; exact Rd.nil), Lib.hid (Below.alloc yb.2 yb.2.size _)⟩
  case round =>
    clear HM0
    obtain ⟨j, hj, rfl, f, HM, HF, hyB⟩ := hrel
    obtain ⟨y6, rfl⟩ : ∃ y6 : Kin w, y6.1 = wr := ⟨⟨wr, hyB.out⟩, rfl⟩
    clear hyB
    by_cases hlt : j < rows.length
    · obtain ⟨r, hr⟩ : ∃ el_, rows[j]? = some el_ := ⟨_, List.getElem?_eq_getElem hlt⟩
      obtain ⟨bA, offA, rfl, hbA, hcA⟩ := HW0.out j _ hr
      obtain ⟨S, capS, r_0, r_1, hcapS, hrS⟩ := hcA j r hr
      have HRS := Lib.hid hrS
      have Hr := Lib.hid hr
      have hrm := HVR.out.1 r (List.mem_of_getElem? hr)
      have hry : -4096 ≤ r.1 ∧ r.1 < 4096 := by have := hrm.1; unfold okC at this; simpa using this
      have hal : Below y6.1.heap.size y6.1 (y6.1.alloc (.cells #[.int .i64 r.1, .slice S r.2.length capS] 47)) := Below.alloc (Below.refl _ _) (Nat.le_refl _) _
      have hmr := HM.out.below hal
      obtain ⟨w2, hrun, hm2, hg2⟩ := MapF.update hmr (y := r.1) (i64_wf (by omega)) (show j < maxLen by unfold maxLen; omega) (.slice S r.2.length capS)
      have HMR := Lib.hid hmr
      have HM2 := Lib.hid hm2
      have HG2 := Lib.hid hg2
      have HAL := Lib.hid hal
      have hbA2 : bA < w.heap.size + 1 := by omega
      have hsz6 : y6.1.heap.size < y6.1.heap.size + 1 := Nat.lt_succ_self _
      clear hr hcA hrS hmr hm2 hg2 hal hrm
      go_wp2
      have hwb : Below w.heap.size w (y6.1.alloc (.cells #[.int .i64 r.1, .slice S r.2.length capS] 47)) := y6.2.trans (HAL.out.mono y6.2.size)
      go_roundw
      case rel => exact ⟨j + 1, by omega, by go_num, _, HM2, Lib.hid (fun y' => by
          rw [rwAt_take HVR.out Hr.out]
          by_cases hy' : y' = r.1
          · rw [if_pos hy', if_pos hy']
            have h0 := HRS.out.below hwb
            exact h0.grown HG2.out (map_far h0 HMR.out)
          · rw [if_neg hy', if_neg hy']
            have h0 := (HF.out y').below HAL.out
            exact h0.grown HG2.out (map_far h0 HMR.out)), Lib.hid (hwb.trans (grownBy_below HG2.out hwb.size hsl))⟩
      case measure => simp [intOf]; omega
    · have ej : j = rows.length := by omega
      have HF2 := Lib.hid (show ∀ y', Rd 2 encRun y6.1 (f y') (rwAt rows y') from fun y' => by have := HF.out y'; rwa [ej, List.take_length] at this)
      clear ej
      go_wp2
      go_ret
      exact ⟨⟨_, _, _, rfl, hsl, HM.out, HF2.out⟩, y6.2⟩
theorem growL_neg {l : List Run} {k : Int} (h : k < 0) : growL l k = [] := by unfold growL growOk; rw [if_neg]; simp; omega
theorem grow_rng {rows : List Reg.Row} {k k' : Int} (h : dilE rows k = 0) (hk : k' ≤ k) (j x : Int) (hx : mem (growL (rwAt rows j) k') x = true) : -4096 ≤ x ∧ x < 4096 := by
  by_cases h0 : k' < 0
  · rw [growL_neg h0, mem_nil] at hx; cases hx
  · obtain ⟨hr, hv, hb⟩ := dilE_iff.1 h
    have hr := reach_iff.1 hr
    obtain ⟨i, h4, h5, h6⟩ := (mem_grow (grow_in (rwAt_in (rvalid_iff.1 hv) j) (k := k') (by omega) (by omega)) x).1 hx
    rw [← memC_rwAt (rvalid_iff.1 hv)] at h6
    have := hb _ _ h6
    omega
theorem dia_in {rows : List Reg.Row} {k : Int} (h : dilE rows k = 0) (y : Int) (m : Nat) : SepIn (diaTo 2 growL (rwAt rows) y k m) := by
  refine sepIn_of_mem (valid_iff.1 (dia_valid (fun _ _ => grow_valid) y k m)).1 fun x hx => ?_
  obtain ⟨j, h1, h2, h3⟩ := (diaU_mem (fun _ _ => grow_valid) y k x m).1 hx
  exact grow_rng h (by omega) j x h3
theorem dia_in1 {rows : List Reg.Row} {k : Int} (h : dilE rows k = 0) (y : Int) (m : Nat) : SepIn (setop (opf 2) (diaTo 2 growL (rwAt rows) y k m) (growL (rwAt rows (y - ((m : Int) + 1))) (k - ((m : Int) + 1)))) := by
  have hs := setop_spec 2 (dia_valid (n := 2) (g := rwAt rows) (c := growL) (fun _ _ => grow_valid) y k m) (grow_valid (a := rwAt rows (y - ((m : Int) + 1))) (k := k - ((m : Int) + 1)))
  refine sepIn_of_mem (valid_iff.1 hs.1).1 fun x hx => ?_
  rw [hs.2 x] at hx
  have hx : (mem (diaTo 2 growL (rwAt rows) y k m) x || mem (growL (rwAt rows (y - ((m : Int) + 1))) (k - ((m : Int) + 1))) x) = true := hx
  rw [Bool.or_eq_true] at hx
  rcases hx with hx | hx
  · exact sepIn_mem (dia_in h y m) hx
  · exact grow_rng h (by omega) _ x hx
theorem growL_len (l : List Run) (k : Int) (h : l.length ≤ 8192) : (growL l k).length ≤ 16384 := by
  unfold growL normR
  split
  · split
    · rw [← norm_normal]
      have := normal_len (l.map (gr k))
      rw [List.length_map] at this
      omega
    · exact Nat.zero_le _
  · exact Nat.zero_le _
set_option maxRecDepth 100000 in
set_option maxHeartbeats 8000000 in
/-- the cases without a dilation -/
theorem dcr_none (v : Value) (rows : List Reg.Row) (k : Int) (w : World) (h : RdReg w v rows) (hbd : RBd rows) (hn : (reachOk k && rvalid rows) = false ∨ ((reachOk k && rvalid rows) = true ∧ rows = [])) :
    Calls Try.prog 27 #[v, .int .i64 k] w fun e w' => (∃ A n c, e = .returned (.tuple #[.agg #[.slice A n c], .int .i64 (dilE rows k)]) ∧ RdReg w' (.agg #[.slice A n c]) (dcrR rows k)) ∧ Below w.heap.size w w' := by
  have H := Lib.hid h
  obtain ⟨A, capA, rfl⟩ := h.slice_
  clear h
  rcases hn with hn | ⟨hn, rfl⟩
  · have e1 : dilE rows k = 1 := by unfold dilE; rw [if_pos hn]
    have e2 : dcrR rows k = [] := by unfold dcrR; rw [if_neg (by rw [e1]; simp)]
    rw [e1, e2]
    clear e1 e2
    go_enter Try.func27, Try.ntmps27
    go_wp2_with (go_at_call 41; (with_reducible refine (Kin.callK (W := (w.alloc (.cells #[.slice A rows.length capA] 24)).alloc (.cells #[.slice none 0 0] 24)) (by repeat (first | with_reducible (first | exact blA | exact blB | refine blC _ ?_ | refine blD ?_ ?_ _ | refine blE ?_ | refine blF _ ?_ | refine blG ?_ _ | refine blH ?_ | refine blI ?_ ?_ _) | (simp only [World.size_alloc]; omega) | (simp <;> omega))) (validM_is _ rows k _ (H.out.below (by repeat (first | with_reducible (first | exact blA | exact blB | refine blC _ ?_ | refine blD ?_ ?_ _ | refine blE ?_ | refine blF _ ?_ | refine blG ?_ _ | refine blH ?_ | refine blI ?_ ?_ _) | (simp only [World.size_alloc]; omega) | (simp <;> omega)))) hbd hn)).mono ?_); rintro e w' ⟨z, rfl, hz, rfl⟩)
    ((try simp only [Exit.inBlock, Exit.then]); refine bodyPost_ret (results_cell_t rfl _ _ (0, 0) rfl (z.boxes2.2.set_ 0 _) Try.underlying24 rfl (by kernel_rfl)) rfl ?_)
    exact ⟨⟨_, _, _, rfl, RdReg.nil⟩, (by repeat (first | with_reducible (first | exact blA | exact blB | refine blC _ ?_ | refine blD ?_ ?_ _ | refine blE ?_ | refine blF _ ?_ | refine blG ?_ _ | refine blH ?_ | refine blI ?_ ?_ _) | (simp only [World.size_alloc]; omega) | (simp <;> omega)))⟩
  · have e1 : dilE [] k = 0 := by unfold dilE; rw [if_neg (by simp [hn]), if_pos rfl]
    have e2 : dcrR [] k = [] := by unfold dcrR; rw [if_neg (by simp)]
    rw [e1, e2]
    clear e1 e2
    have H0 := Lib.hid (show RdReg w (.agg #[.slice A 0 capA]) [] from H.out)
    go_enter Try.func27, Try.ntmps27
    go_wp2_with (first
      | (go_at_call 41; (with_reducible refine (Kin.callK (W := (w.alloc (.cells #[.slice A 0 capA] 24)).alloc (.cells #[.slice none 0 0] 24)) (by repeat (first | with_reducible (first | exact blA | exact blB | refine blC _ ?_ | refine blD ?_ ?_ _ | refine blE ?_ | refine blF _ ?_ | refine blG ?_ _ | refine blH ?_ | refine blI ?_ ?_ _) | (simp only [World.size_alloc]; omega) | (simp <;> omega))) (validM_is _ [] k _ (H0.out.below (by repeat (first | with_reducible (first | exact blA | exact blB | refine blC _ ?_ | refine blD ?_ ?_ _ | refine blE ?_ | refine blF _ ?_ | refine blG ?_ _ | refine blH ?_ | refine blI ?_ ?_ _) | (simp only [World.size_alloc]; omega) | (simp <;> omega)))) hbd hn)).mono ?_); rintro e w' ⟨z, rfl, hz, rfl⟩)
      | (go_at_call 42; (with_reducible refine (Kin.callK (W := (w.alloc (.cells #[.slice A 0 capA] 24)).alloc (.cells #[.slice none 0 0] 24)) (by repeat (first | with_reducible (first | exact blA | exact blB | refine blC _ ?_ | refine blD ?_ ?_ _ | refine blE ?_ | refine blF _ ?_ | refine blG ?_ _ | refine blH ?_ | refine blI ?_ ?_ _) | (simp only [World.size_alloc]; omega) | (simp <;> omega))) (boxReg_is (p := ((0, 0), (0, 0))) _ [] _ (H0.out.below (by repeat (first | with_reducible (first | exact blA | exact blB | refine blC _ ?_ | refine blD ?_ ?_ _ | refine blE ?_ | refine blF _ ?_ | refine blG ?_ _ | refine blH ?_ | refine blI ?_ ?_ _) | (simp only [World.size_alloc]; omega) | (simp <;> omega)))) hbd (by simp [boxR]) (b := false) (by simp [boxOk]))).mono ?_); rintro e w' ⟨z, rfl, hz, rfl⟩; (have hB := Lib.hid z.boxes2.2; have q0 : (Kin.wd z).cell? ⟨w.heap.size + 1, 0, none⟩ = some (.slice none 0 0) := hB.out.cell 0; have qf : (Kin.wd z).frozen? ⟨w.heap.size + 1, 0, none⟩ = false := hB.out.frozen 0; have ql := hB.out.lt; have ql1 := Nat.lt_succ_of_lt ql; have ql2 : w.heap.size < (Kin.wd z).heap.size := Nat.lt_of_succ_lt ql)))
    ((try simp only [Exit.inBlock, Exit.then]); refine bodyPost_ret (results_cell_t rfl _ _ (0, 0) rfl ((hB.out.set_ 0 _).below (Below.alloc (Below.alloc (Below.refl _ _) (Nat.le_refl _) _) (le_alloc (Nat.le_refl _) _) _)) Try.underlying24 rfl (by kernel_rfl)) rfl ?_)
    exact ⟨⟨_, _, _, rfl, RdReg.nil⟩, (by repeat (first | with_reducible (first | exact blA | exact blB | refine blC _ ?_ | refine blD ?_ ?_ _ | refine blE ?_ | refine blF _ ?_ | refine blG ?_ _ | refine blH ?_ | refine blI ?_ ?_ _) | (simp only [World.size_alloc]; omega) | (simp <;> omega)))⟩
set_option maxRecDepth 100000 in
set_option maxHeartbeats 8000000 in
/-- the dilation would leave the range -/
theorem dcr_far (v : Value) (rows : List Reg.Row) (k : Int) (w : World) (h : RdReg w v rows) (hbd : RBd rows) (hn : rows ≠ []) (hE : dilE rows k = 8) :
    Calls Try.prog 27 #[v, .int .i64 k] w fun e w' => (∃ A n c, e = .returned (.tuple #[.agg #[.slice A n c], .int .i64 (dilE rows k)]) ∧ RdReg w' (.agg #[.slice A n c]) (dcrR rows k)) ∧ Below w.heap.size w w' := by
  have H := Lib.hid h
  obtain ⟨A, capA, rfl⟩ := h.slice_
  clear h
  have e2 : dcrR rows k = [] := by unfold dcrR; rw [if_neg (by rw [hE]; simp)]
  rw [hE, e2]
  clear e2
  obtain ⟨h1, h2⟩ : (reachOk k && rvalid rows) = true ∧ ((boxR rows).1.1 - k < -4096 ∨ (boxR rows).1.2 - k < -4096 ∨ 4096 ≤ (boxR rows).2.1 + k ∨ 4096 ≤ (boxR rows).2.2 + k) := by
    unfold dilE at hE
    split at hE
    · omega
    · try rw [if_neg hn] at hE
      split at hE
      · exact ⟨by simp_all, by assumption⟩
      · omega
  have hr : 0 ≤ k ∧ k ≤ 64 ∧ rvalid rows = true := by simpa [reachOk, and_assoc] using h1
  obtain ⟨k0, k1, hv⟩ := hr
  have hb := box_bd hv hn
  have hok : boxOk rows = true := by cases rows <;> simp_all [boxOk]
  obtain ⟨⟨⟨lx, ly⟩, hx, hy⟩, hp⟩ : ∃ p, boxR rows = p := ⟨_, rfl⟩
  rw [hp] at h2 hb
  simp only at h2 hb
  have HP := Lib.hid hp
  clear hE hp hn
  have hw1 : IntKind.i64.wrap (min lx ly - k) = min lx ly - k := IntWalk.i64_in _ (by omega)
  have hw2 : IntKind.i64.wrap (max hx hy + k) = max hx hy + k := IntWalk.i64_in _ (by omega)
  have hc : min lx ly - k < -4096 ∨ (¬ min lx ly - k < -4096 ∧ 4096 ≤ max hx hy + k) := by omega
  clear h2 hb
  go_enter Try.func27, Try.ntmps27
  rcases hc with hc | ⟨hc, hd⟩
  all_goals
    go_wp2_with (first
      | (go_at_call 41; (with_reducible refine (Kin.callK (W := (w.alloc (.cells #[.slice A rows.length capA] 24)).alloc (.cells #[.slice none 0 0] 24)) (by repeat (first | with_reducible (first | exact blA | exact blB | refine blC _ ?_ | refine blD ?_ ?_ _ | refine blE ?_ | refine blF _ ?_ | refine blG ?_ _ | refine blH ?_ | refine blI ?_ ?_ _) | (simp only [World.size_alloc]; omega) | (simp <;> omega))) (validM_is _ rows k _ (H.out.below (by repeat (first | with_reducible (first | exact blA | exact blB | refine blC _ ?_ | refine blD ?_ ?_ _ | refine blE ?_ | refine blF _ ?_ | refine blG ?_ _ | refine blH ?_ | refine blI ?_ ?_ _) | (simp only [World.size_alloc]; omega) | (simp <;> omega)))) hbd h1)).mono ?_); rintro e w' ⟨z, rfl, hz, rfl⟩)
      | (go_at_call 42; (with_reducible refine (Kin.callK (W := (w.alloc (.cells #[.slice A rows.length capA] 24)).alloc (.cells #[.slice none 0 0] 24)) (by repeat (first | with_reducible (first | exact blA | exact blB | refine blC _ ?_ | refine blD ?_ ?_ _ | refine blE ?_ | refine blF _ ?_ | refine blG ?_ _ | refine blH ?_ | refine blI ?_ ?_ _) | (simp only [World.size_alloc]; omega) | (simp <;> omega))) (boxReg_is _ rows _ (H.out.below (by repeat (first | with_reducible (first | exact blA | exact blB | refine blC _ ?_ | refine blD ?_ ?_ _ | refine blE ?_ | refine blF _ ?_ | refine blG ?_ _ | refine blH ?_ | refine blI ?_ ?_ _) | (simp only [World.size_alloc]; omega) | (simp <;> omega)))) hbd HP.out hok)).mono ?_); rintro e w' ⟨z, rfl, hz, rfl⟩; (have hB := Lib.hid z.boxes2.2; have q0 : (Kin.wd z).cell? ⟨w.heap.size + 1, 0, none⟩ = some (.slice none 0 0) := hB.out.cell 0; have qf : (Kin.wd z).frozen? ⟨w.heap.size + 1, 0, none⟩ = false := hB.out.frozen 0; have ql := hB.out.lt; have ql1 := Nat.lt_succ_of_lt ql; have ql2 : w.heap.size < (Kin.wd z).heap.size := Nat.lt_of_succ_lt ql)))
    ((try simp only [Exit.inBlock, Exit.then]); refine bodyPost_ret (results_cell_t rfl _ _ (0, 0) rfl ((hB.out.set_ 0 _).below (Below.alloc (Below.alloc (Below.refl _ _) (Nat.le_refl _) _) (le_alloc (Nat.le_refl _) _) _)) Try.underlying24 rfl (by kernel_rfl)) rfl ?_)
    exact ⟨⟨_, _, _, rfl, RdReg.nil⟩, (by repeat (first | with_reducible (first | exact blA | exact blB | refine blC _ ?_ | refine blD ?_ ?_ _ | refine blE ?_ | refine blF _ ?_ | refine blG ?_ _ | refine blH ?_ | refine blI ?_ ?_ _) | (simp only [World.size_alloc]; omega) | (simp <;> omega)))⟩
set_option maxRecDepth 100000 in
set_option maxHeartbeats 16000000 in
theorem dcr_go (v : Value) (rows : List Reg.Row) (k : Int) (w : World) (h : RdReg w v rows) (hbd : RBd rows) (hn : rows ≠ []) (hE : dilE rows k = 0) :
    Calls Try.prog 27 #[v, .int .i64 k] w fun e w' => (∃ A n c, e = .returned (.tuple #[.agg #[.slice A n c], .int .i64 (dilE rows k)]) ∧ RdReg w' (.agg #[.slice A n c]) (dcrR rows k)) ∧ Below w.heap.size w w' := by
  have H := Lib.hid h
  obtain ⟨A, capA, rfl⟩ := h.slice_
  clear h
  have e2 : dcrR rows k = dcrRows rows k := by unfold dcrR; rw [if_pos ⟨hE, hn⟩]
  rw [hE, e2]
  clear e2
  obtain ⟨k0, k1, hv, hbx⟩ := dilE_zero hE
  have hbx := hbx hn
  have h1 : (reachOk k && rvalid rows) = true := by rw [hv, reach_iff.2 ⟨k0, k1⟩]; rfl
  have hb := box_bd hv hn
  have hok : boxOk rows = true := by cases rows <;> simp_all [boxOk]
  have HD := Lib.hid (show dcrRows rows k = rowsOn (dcrW rows k) (upFrom ((boxR rows).1.2 - k) ((boxR rows).2.2 + k + 1 - ((boxR rows).1.2 - k)).toNat) from rfl)
  obtain ⟨⟨⟨lx, ly⟩, hx, hy⟩, hp⟩ : ∃ p, boxR rows = p := ⟨_, rfl⟩
  rw [hp] at hbx hb HD
  simp only at hbx hb HD
  have HP := Lib.hid hp
  have hE0 := hE
  clear hE hp hn
  have hw1 : IntKind.i64.wrap (min lx ly - k) = min lx ly - k := IntWalk.i64_in _ (by omega)
  have hw2 : IntKind.i64.wrap (max hx hy + k) = max hx hy + k := IntWalk.i64_in _ (by omega)
  have hc1 : ¬ min lx ly - k < -4096 := by omega
  have hc2 : ¬ 4096 ≤ max hx hy + k := by omega
  have HVR := Lib.hid (rvalid_iff.1 hv)
  have HE0 := Lib.hid hE0
  go_enter Try.func27, Try.ntmps27
  go_wp2_with (first
      | (go_at_call 41; (with_reducible refine (Kin.callK (W := (w.alloc (.cells #[.slice A rows.length capA] 24)).alloc (.cells #[.slice none 0 0] 24)) (by repeat (first | with_reducible (first | exact blA | exact blB | refine blC _ ?_ | refine blD ?_ ?_ _ | refine blE ?_ | refine blF _ ?_ | refine blG ?_ _ | refine blH ?_ | refine blI ?_ ?_ _) | (simp only [World.size_alloc]; omega) | (simp <;> omega))) (validM_is _ rows k _ (H.out.below (by repeat (first | with_reducible (first | exact blA | exact blB | refine blC _ ?_ | refine blD ?_ ?_ _ | refine blE ?_ | refine blF _ ?_ | refine blG ?_ _ | refine blH ?_ | refine blI ?_ ?_ _) | (simp only [World.size_alloc]; omega) | (simp <;> omega)))) hbd h1)).mono ?_); rintro e w' ⟨z, rfl, hz, rfl⟩)
      | (go_at_call 42; (with_reducible refine (Kin.callK (W := (w.alloc (.cells #[.slice A rows.length capA] 24)).alloc (.cells #[.slice none 0 0] 24)) (by repeat (first | with_reducible (first | exact blA | exact blB | refine blC _ ?_ | refine blD ?_ ?_ _ | refine blE ?_ | refine blF _ ?_ | refine blG ?_ _ | refine blH ?_ | refine blI ?_ ?_ _) | (simp only [World.size_alloc]; omega) | (simp <;> omega))) (boxReg_is _ rows _ (H.out.below (by repeat (first | with_reducible (first | exact blA | exact blB | refine blC _ ?_ | refine blD ?_ ?_ _ | refine blE ?_ | refine blF _ ?_ | refine blG ?_ _ | refine blH ?_ | refine blI ?_ ?_ _) | (simp only [World.size_alloc]; omega) | (simp <;> omega)))) hbd HP.out hok)).mono ?_); rintro e w' ⟨z, rfl, hz, rfl⟩; (have hB := Lib.hid z.boxes2.2; have q0 : (Kin.wd z).cell? ⟨w.heap.size + 1, 0, none⟩ = some (.slice none 0 0) := hB.out.cell 0; have qf : (Kin.wd z).frozen? ⟨w.heap.size + 1, 0, none⟩ = false := hB.out.frozen 0; have ql := hB.out.lt; have ql1 := Nat.lt_succ_of_lt ql; have ql2 : w.heap.size < (Kin.wd z).heap.size := Nat.lt_of_succ_lt ql; have c0 : (Kin.wd z).cell? ⟨w.heap.size, 0, none⟩ = some (.slice A rows.length capA) := z.boxes2.1.cell 0; have d1 : w.heap.size < (Kin.wd z).heap.size + 1 := Nat.lt_succ_of_lt ql2; have d2 : w.heap.size < (Kin.wd z).heap.size + 1 + 1 := Nat.lt_succ_of_lt d1; have d3 : w.heap.size < (Kin.wd z).heap.size + 1 + 1 + 1 := Nat.lt_succ_of_lt d2))
      | (go_at_call 55; (with_reducible refine (Kin.callK (W := ((Kin.wd z).alloc (.cells #[.int .i64 lx, .int .i64 ly] 38)).alloc (.cells #[.int .i64 hx, .int .i64 hy] 38)) (by repeat (first | with_reducible (first | exact blA | exact blB | refine blC _ ?_ | refine blD ?_ ?_ _ | refine blE ?_ | refine blF _ ?_ | refine blG ?_ _ | refine blH ?_ | refine blI ?_ ?_ _) | (simp only [World.size_alloc]; omega) | (simp <;> omega))) (rowsmap_any _ rows _ (H.out.below (by repeat (first | with_reducible (first | exact blA | exact blB | refine blC _ ?_ | refine blD ?_ ?_ _ | refine blE ?_ | refine blF _ ?_ | refine blG ?_ _ | refine blH ?_ | refine blI ?_ ?_ _) | (simp only [World.size_alloc]; omega) | (simp <;> omega)))) HVR.out)).mono ?_); rintro e w' ⟨z3, ⟨bm, nm, f, rfl, hbm, hm3, hf3⟩, hz3, rfl⟩; (have HM := Lib.hid hm3; have HF2 := Lib.hid hf3; have bx := z3.boxes2; have aa1 : (Kin.wd z3).cell? ⟨(Kin.wd z).heap.size, 1, none⟩ = some (.int .i64 ly) := bx.1.cell 1; have aa2 : (Kin.wd z3).cell? ⟨(Kin.wd z).heap.size + 1, 1, none⟩ = some (.int .i64 hy) := bx.2.cell 1; have al1 := bx.1.lt; have al2 := bx.2.lt; have al3 := Nat.lt_succ_of_lt al1; have al4 := Nat.lt_succ_of_lt al2; clear hm3 hf3 bx)))
  obtain ⟨y, hX⟩ : ∃ y : Kin z.1, y.1 = z3.1.alloc (.cells #[.map (some bm), .func (.func 43) #[] #[]] 55) := ⟨⟨z3.1.alloc (.cells #[.map (some bm), .func (.func 43) #[] #[]] 55), (by repeat (first | with_reducible (first | exact blA | exact blB | refine blC _ ?_ | refine blD ?_ ?_ _ | refine blE ?_ | refine blF _ ?_ | refine blG ?_ _ | refine blH ?_ | refine blI ?_ ?_ _) | (simp only [World.size_alloc]; omega) | (simp <;> omega)))⟩, rfl⟩
  rw [← hX]
  have hsz : y.1.heap.size = z3.1.heap.size + 1 := by rw [hX]; simp
  have h3y : Below z3.1.heap.size z3.1 y.1 := hX ▸ Below.alloc (Below.refl _ _) (Nat.le_refl _) _
  have HW := Lib.hid (show Blk y.1 z3.1.heap.size 55 #[.map (some bm), .func (.func 43) #[] #[]] from hX ▸ Blk.new _ _ _)
  have e30 : y.1.cell? ⟨z3.1.heap.size, 0, none⟩ = some (.map (some bm)) := HW.out.cell 0
  have e31 : y.1.cell? ⟨z3.1.heap.size, 1, none⟩ = some (.func (.func 43) #[] #[]) := HW.out.cell 1
  have e3l := HW.out.lt
  have HM := Lib.hid (HM.out.below h3y)
  have HF2 := Lib.hid (fun y' => (HF2.out y').below h3y)
  have a1' : y.1.cell? ⟨z.1.heap.size, 1, none⟩ = some (.int .i64 ly) := (h3y.cell (p := ⟨_, 1, none⟩) al1).trans aa1
  have a2' : y.1.cell? ⟨z.1.heap.size + 1, 1, none⟩ = some (.int .i64 hy) := (h3y.cell (p := ⟨_, 1, none⟩) al2).trans aa2
  have d1' : z.1.heap.size < y.1.heap.size := Nat.lt_of_lt_of_le al1 h3y.size
  have d2' : z.1.heap.size + 1 < y.1.heap.size := Nat.lt_of_lt_of_le al2 h3y.size
  have dw := y.lt0 ql
  have dw2 := y.lt0 ql2
  have hwy : Below w.heap.size w y.1 := (by repeat (first | with_reducible (first | exact blA | exact blB | refine blC _ ?_ | refine blD ?_ ?_ _ | refine blE ?_ | refine blF _ ?_ | refine blG ?_ _ | refine blH ?_ | refine blI ?_ ?_ _) | (simp only [World.size_alloc]; omega) | (simp <;> omega)))
  have hwk : IntKind.i64.wrap (ly - k) = ly - k := IntWalk.i64_in _ (by omega)
  have HBy := Lib.hid (hB.out.below y.2)
  have HP0 := Lib.hid (show Blk (y.1.alloc (.cells #[.slice none 0 0] 24)) (z3.1.heap.size + 1) 24 #[.slice none 0 0] from by have h := Blk.new y.1 24 #[.slice none 0 0]; rwa [hsz] at h)
  have hszl : y.1.heap.size ≤ z3.1.heap.size + 1 := Nat.le_of_eq hsz
  have hlr := (vreg_len HVR.out).1
  clear hX hsz aa1 aa2 al1 al2 al3 al4 d1 d2 d3 h3y hw1 hw2 hc1 hc2
  go_loopw [11] (fun o wr => ∃ n : Nat, n ≤ (hy + k + 1 - (ly - k)).toNat ∧ o = .int .i64 (ly - k + n) ∧ ∃ S, Hid (OwnRows (y.1.heap.size + 1) wr S (rowsOn (dcrW rows k) (upFrom (ly - k) n))) ∧ Hid (Blk wr (z3.1.heap.size + 1) 24 #[S]) ∧ Hid (Below y.1.heap.size y.1 wr)) (fun o _ => (hy + k + 1 - intOf o).toNat)
  case atStart => exact ⟨0, Nat.zero_le _, by simp, _, Lib.hid OwnN.nil, HP0, Lib.hid (by repeat (first | with_reducible (first | exact blA | exact blB | refine blC _ ?_ | refine blD ?_ ?_ _ | refine blE ?_ | refine blF _ ?_ | refine blG ?_ _ | refine blH ?_ | refine blI ?_ ?_ _) | (simp only [World.size_alloc]; omega) | (simp <;> omega)))⟩
  case round =>
    obtain ⟨n, hn, rfl, S, HO, HP6, hyB⟩ := hrel
    obtain ⟨y6, rfl⟩ : ∃ y6 : Kin y.1, y6.1 = wr := ⟨⟨wr, hyB.out⟩, rfl⟩
    clear hyB
    have hwh : IntKind.i64.wrap (hy + k) = hy + k := IntWalk.i64_in _ (by omega)
    by_cases hlt : ly - k + (n : Int) ≤ hy + k
    · obtain ⟨hs, hown, hnest, hap⟩ := HO.out
      obtain ⟨AS, nS, cS, rfl⟩ := own_slice hown
      have HOW := Lib.hid hown
      have HNE := Lib.hid hnest
      have HAP := Lib.hid hap
      have hhl := hnest.1
      have hrl := rowsOn_len (dcrW rows k) (upFrom (ly - k) n)
      rw [upFrom_len] at hrl
      have p0 : y6.1.cell? ⟨z3.1.heap.size + 1, 0, none⟩ = some (.slice AS nS cS) := HP6.out.cell 0
      have pl := HP6.out.lt
      have plz : y.1.heap.size < y6.1.heap.size := Nat.lt_of_le_of_lt hszl pl
      have hwn : IntKind.i64.wrap (ly - k + (n : Int) + 1) = ly - k + (n : Int) + 1 := IntWalk.i64_in _ (by omega)
      have lch : (dcrW rows k (ly - k + (n : Int))).length ≤ 8192 := sepIn_len (dia_in HE0.out (ly - k + (n : Int)) k.toNat)
      clear hown hnest hap
      go_wp2_with (go_at_call 56; (with_reducible refine (Kin.callK (W := (Kin.wd y6)) (by repeat (first | with_reducible (first | exact blA | exact blB | refine blC _ ?_ | refine blD ?_ ?_ _ | refine blE ?_ | refine blF _ ?_ | refine blG ?_ _ | refine blH ?_ | refine blI ?_ ?_ _) | (simp only [World.size_alloc]; omega) | (simp <;> omega))) (diaU_any _ nm f (rwAt rows) (ly - k + (n : Int)) k _ (HM.out.below (by repeat (first | with_reducible (first | exact blA | exact blB | refine blC _ ?_ | refine blD ?_ ?_ _ | refine blE ?_ | refine blF _ ?_ | refine blG ?_ _ | refine blH ?_ | refine blI ?_ ?_ _) | (simp only [World.size_alloc]; omega) | (simp <;> omega)))) (fun y' => (HF2.out y').below (by repeat (first | with_reducible (first | exact blA | exact blB | refine blC _ ?_ | refine blD ?_ ?_ _ | refine blE ?_ | refine blF _ ?_ | refine blG ?_ _ | refine blH ?_ | refine blI ?_ ?_ _) | (simp only [World.size_alloc]; omega) | (simp <;> omega)))) ⟨k0, k1⟩ (by omega) (fun m => Nat.le_trans (sepIn_len (dia_in HE0.out _ m)) (by decide)) (fun m => Nat.le_trans (sepIn_len (dia_in1 HE0.out _ m)) (by decide)) (fun j' k' => growL_len _ _ (sepIn_len (rwAt_in HVR.out j'))) (fun j' => Nat.le_trans (sepIn_len (rwAt_in HVR.out j')) (by decide)))).mono ?_); rintro e w' ⟨zu, ⟨u, rfl, hl⟩, hzu, rfl⟩; (change Rd 2 encRun (Kin.wd zu) u (dcrW rows k (ly - k + (n : Int))) at hl; (obtain ⟨L, capL, rfl, hcapL, _⟩ := hl.open_); have HL := Lib.hid hl; clear hl))
      · generalize hGG : dcrW rows k (ly - k + (n : Int)) = G at *
        have HGG := Lib.hid hGG
        clear hGG
        go_region_law (first
          | (skip; (refine step_app _ rfl _ _ 45 rfl encRun_len (by decide) oneR zu.1.heap.size 61 (.agg #[.int .i64 0, .int .i64 0]) 16 infoRun rfl Try.underlying45 (.slice (some ⟨zu.1.heap.size, 0, none⟩) 0 0) _ _ _ (by first | rfl | simp [Act.eval, Act.put]) (own_made _ encRun_len zu.1.heap.size _ [] #[] rfl (by repeat (first | with_reducible exact Nat.le_refl _ | assumption | with_reducible refine le_alloc ?_ _ | with_reducible refine le_drew ?_ | with_reducible refine Kin.le _ ?_ | assumption | omega | (simp only [World.size_alloc]; omega))) (by decide)) _ _ _ (by first | rfl | simp [Act.eval, Act.put]) (HL.out.below (by repeat (first | with_reducible (first | exact blA | exact blB | refine blC _ ?_ | refine blD ?_ ?_ _ | refine blE ?_ | refine blF _ ?_ | refine blG ?_ _ | refine blH ?_ | refine blI ?_ ?_ _) | (simp only [World.size_alloc]; omega) | (simp <;> omega)))) ?c1 (by decide) ?c2 ?_; (case c1 => (first | (simp only [List.length_append, List.length_cons, List.length_nil]; omega) | omega | (simp; omega))); (case c2 => exact (by repeat (first | with_reducible exact Nat.le_refl _ | assumption | with_reducible refine le_alloc ?_ _ | with_reducible refine le_drew ?_ | with_reducible refine Kin.le _ ?_ | assumption | omega | (simp only [World.size_alloc]; omega)))); intro v' w1 hown' hg hbel hat'; ((obtain ⟨zc, rfl⟩ : ∃ zc : Kin y6.1, zc.1 = w1 := ⟨⟨w1, Below.trans (by repeat (first | with_reducible (first | exact blA | exact blB | refine blC _ ?_ | refine blD ?_ ?_ _ | refine blE ?_ | refine blF _ ?_ | refine blG ?_ _ | refine blH ?_ | refine blI ?_ ?_ _) | (simp only [World.size_alloc]; omega) | (simp <;> omega))) (hbel.mono zu.2.size)⟩, rfl⟩); have hrc := Rd.own encRun_len hown'; rw [List.nil_append] at hrc; (obtain ⟨AC, capC, rfl, hcapC, _⟩ := hrc.open_); have HRC := Lib.hid hrc; have HFR := Lib.hid (own_fresh hown' (v2 := .slice AS nS cS) (fun q e => Nat.lt_of_lt_of_le (HOW.out.lt q e).2 zu.2.size)); clear hrc hown' hg hbel hat')))
          | (skip; (refine step_app _ rfl _ _ 22 rfl encRow_len (by decide) oneRow (y.1.heap.size + 1) 47 (.agg #[.int .i64 0, .slice none 0 0]) 32 infoRow rfl Try.underlying22 (.slice AS nS cS) _ _ _ (by first | rfl | simp [Act.eval, Act.put]) ((own_below HOW.out zc.2).alloc _) _ _ _ (by first | rfl | simp [Act.eval, Act.put]) (rd_one _ encRow_len _ (hd (ly - k + (n : Int)) AC G.length capC) _ rfl) ?c1 (by decide) ?c2 ?_; (case c1 => (first | (simp only [List.length_append, List.length_cons, List.length_nil]; omega) | omega | (simp; omega))); (case c2 => exact (by repeat (first | with_reducible exact Nat.le_refl _ | assumption | with_reducible refine le_alloc ?_ _ | with_reducible refine le_drew ?_ | with_reducible refine Kin.le _ ?_ | assumption | omega | (simp only [World.size_alloc]; omega)))); intro v' w1 hown' hg hbel hat'; ((obtain ⟨AV, nV, cV, rfl⟩ := own_slice hown'); have hPn : Blk (zc.1.alloc (.cells #[.int .i64 (ly - k + (n : Int)), .slice AC G.length capC] 47)) (z3.1.heap.size + 1) 24 #[.slice AS nS cS] := (HP6.out.below zc.2).below (Below.alloc (Below.refl _ _) (Nat.le_refl _) _); have HP1 := Lib.hid (hPn.grown hg (Ne.symm (own_ne ((own_below HOW.out zc.2).alloc _) hPn (by decide)))); have p1 : w1.cell? ⟨z3.1.heap.size + 1, 0, none⟩ = some (.slice AS nS cS) := HP1.out.cell 0; have pf1 : w1.frozen? ⟨z3.1.heap.size + 1, 0, none⟩ = false := HP1.out.frozen 0; have pl1 := HP1.out.lt; have HPU := Lib.hid (OwnRows.push ((own_below HOW.out zc.2).alloc _) (HNE.out.below (by repeat (first | with_reducible (first | exact blA | exact blB | refine blC _ ?_ | refine blD ?_ ?_ _ | refine blE ?_ | refine blF _ ?_ | refine blG ?_ _ | refine blH ?_ | refine blI ?_ ?_ _) | (simp only [World.size_alloc]; omega) | (simp <;> omega)))) HAP.out hown' hg hat' (HRC.out.below (by repeat (first | with_reducible (first | exact blA | exact blB | refine blC _ ?_ | refine blD ?_ ?_ _ | refine blE ?_ | refine blF _ ?_ | refine blG ?_ _ | refine blH ?_ | refine blI ?_ ?_ _) | (simp only [World.size_alloc]; omega) | (simp <;> omega)))) (HFR.out.imp (fun h => List.eq_nil_of_length_eq_zero (by simpa using h)) id) hPn); have HBE := Lib.hid hbel; clear hown' hg hbel hat'))))
        all_goals
          have hne : G.isEmpty = false := by
            rw [List.isEmpty_eq_false_iff]; intro e; have : G.length = 0 := (by rw [e]; rfl); omega
          have hb56 : Below y.1.heap.size y.1 (zc.1.alloc (.cells #[.int .i64 (ly - k + (n : Int)), .slice AC G.length capC] 47)) := Below.alloc (y6.2.trans (zc.2.mono y6.2.size)) (by repeat (first | with_reducible exact Nat.le_refl _ | assumption | with_reducible refine le_alloc ?_ _ | with_reducible refine le_drew ?_ | with_reducible refine Kin.le _ ?_ | assumption | omega | (simp only [World.size_alloc]; omega))) _
          have hb5 := hb56.trans (HBE.out.mono (Nat.le_succ _))
          go_wp2
          go_roundw
          case rel => exact ⟨n + 1, by omega, by go_num, _, Lib.hid (by rw [upFrom_succ, rowsOn_snoc, HGG.out, hne]; exact HPU.out.1), Lib.hid HPU.out.2, Lib.hid (Below.setCell hb5 hszl _)⟩
          case measure => simp [intOf]; omega
      · rename_i h0
        have hne : (dcrW rows k (ly - k + (n : Int))).isEmpty = true := by
          rw [List.isEmpty_iff]; exact List.eq_nil_of_length_eq_zero (by omega)
        go_roundw
        case rel => exact ⟨n + 1, by omega, by go_num, _, Lib.hid (by rw [upFrom_succ, rowsOn_snoc, hne]; simpa using HO.out.below zu.2), Lib.hid (HP6.out.below zu.2), Lib.hid (y6.2.trans (zu.2.mono y6.2.size))⟩
        case measure => simp [intOf]; omega
    · have en : n = (hy + k + 1 - (ly - k)).toNat := by omega
      obtain ⟨hs, hown, _⟩ := HO.out
      obtain ⟨AS, nS, cS, rfl⟩ := own_slice hown
      have p0 : y6.1.cell? ⟨z3.1.heap.size + 1, 0, none⟩ = some (.slice AS nS cS) := HP6.out.cell 0
      have pl := HP6.out.lt
      have plz : y.1.heap.size < y6.1.heap.size := Nat.lt_of_le_of_lt hszl pl
      have B36 := Lib.hid (HBy.out.below y6.2)
      have q0 : y6.1.cell? ⟨w.heap.size + 1, 0, none⟩ = some (.slice none 0 0) := B36.out.cell 0
      have qf : y6.1.frozen? ⟨w.heap.size + 1, 0, none⟩ = false := B36.out.frozen 0
      have ql := B36.out.lt
      clear hown
      go_wp2
      ((try simp only [Exit.inBlock, Exit.then]); refine bodyPost_ret (results_cell_t rfl _ _ (0, 0) rfl (B36.out.set_ 0 _) Try.underlying24 rfl (by kernel_rfl)) rfl ?_)
      refine ⟨⟨_, _, _, rfl, ?_⟩, (by repeat (first | with_reducible (first | exact blA | exact blB | refine blC _ ?_ | refine blD ?_ ?_ _ | refine blE ?_ | refine blF _ ?_ | refine blG ?_ _ | refine blH ?_ | refine blI ?_ ?_ _) | (simp only [World.size_alloc]; omega) | (simp <;> omega)))⟩
      rw [HD.out, ← en]
      exact (HO.out.set_ (i := 0) (u := .slice AS nS cS) B36.out (by decide)).reg
theorem dcr_any (v : Value) (rows : List Reg.Row) (k : Int) (w : World) (h : RdReg w v rows) (hbd : RBd rows) :
    Calls Try.prog 27 #[v, .int .i64 k] w fun e w' => (∃ A n c, e = .returned (.tuple #[.agg #[.slice A n c], .int .i64 (dilE rows k)]) ∧ RdReg w' (.agg #[.slice A n c]) (dcrR rows k)) ∧ Below w.heap.size w w' := by
  by_cases h1 : (reachOk k && rvalid rows) = true
  · by_cases hn : rows = []
    · exact dcr_none v rows k w h hbd (.inr ⟨h1, hn⟩)
    · rcases dilE_two h1 with h2 | h2
      · exact dcr_go v rows k w h hbd hn h2
      · exact dcr_far v rows k w h hbd hn h2
  · exact dcr_none v rows k w h hbd (.inl (by simpa using h1))
end Go.Proofs.Ytjppaknajdbkgaa

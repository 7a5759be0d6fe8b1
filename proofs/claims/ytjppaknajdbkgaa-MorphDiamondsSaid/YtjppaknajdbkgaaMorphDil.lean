/- What Dilate returns where there is nothing to dilate. -/
import Derived.Test.YtjppaknajdbkgaaMorphMathA
namespace Go.Proofs.Ytjppaknajdbkgaa
set_option linter.unusedSimpArgs false
set_option linter.unusedVariables false
open Go.RowKit Runs Reg
attribute [local go_sem] Kin.cell Kin.frozen Kin.lt0 Kin.lt1 Kin.lt2 Kin.lt3 run_mkf
theorem validM_is {b : Bool} (v : Value) (rows : List Reg.Row) (k : Int) (w : World) (h : RdReg w v rows) (hbd : RBd rows) (hb : (reachOk k && rvalid rows) = b) :
    Calls Try.prog 41 #[v, .int .i64 k] w fun e w' => e = .returned (.bool b) ∧ Below w.heap.size w w' := by subst hb; exact validM_any v rows k w h hbd
theorem boxReg_is {p : (Int × Int) × (Int × Int)} {b : Bool} (v : Value) (rows : List Reg.Row) (w : World) (h : RdReg w v rows) (hbd : RBd rows) (hp : boxR rows = p) (hb : boxOk rows = b) :
    Calls Try.prog 42 #[v] w fun e w' => e = .returned (.tuple #[.agg #[.int .i64 p.1.1, .int .i64 p.1.2], .agg #[.int .i64 p.2.1, .int .i64 p.2.2], .bool b]) ∧ Below w.heap.size w w' := by subst hp hb; exact boxReg_any v rows w h hbd
set_option maxRecDepth 100000 in
set_option maxHeartbeats 8000000 in
/-- the cases without a dilation -/
theorem dil_none (v : Value) (rows : List Reg.Row) (k : Int) (w : World) (h : RdReg w v rows) (hbd : RBd rows) (hn : (reachOk k && rvalid rows) = false ∨ ((reachOk k && rvalid rows) = true ∧ rows = [])) :
    Calls Try.prog 16 #[v, .int .i64 k] w fun e w' => (∃ A n c, e = .returned (.tuple #[.agg #[.slice A n c], .int .i64 (dilE rows k)]) ∧ RdReg w' (.agg #[.slice A n c]) (dilR rows k)) ∧ Below w.heap.size w w' := by
  have H := Lib.hid h
  obtain ⟨A, capA, rfl⟩ := h.slice_
  clear h
  rcases hn with hn | ⟨hn, rfl⟩
  · have e1 : dilE rows k = 1 := by unfold dilE; rw [if_pos hn]
    have e2 : dilR rows k = [] := by unfold dilR; rw [if_neg (by rw [e1]; simp)]
    rw [e1, e2]
    clear e1 e2
    go_enter Try.func16, Try.ntmps16
    go_wp2_with (go_at_call 41; (with_reducible refine (Kin.callK (W := (w.alloc (.cells #[.slice A rows.length capA] 24)).alloc (.cells #[.slice none 0 0] 24)) (by repeat (first | with_reducible (first | exact blA | exact blB | refine blC _ ?_ | refine blD ?_ ?_ _ | refine blE ?_ | refine blF _ ?_ | refine blG ?_ _ | refine blH ?_ | refine blI ?_ ?_ _) | (simp only [World.size_alloc]; omega) | (simp <;> omega))) (validM_is _ rows k _ (H.out.below (by repeat (first | with_reducible (first | exact blA | exact blB | refine blC _ ?_ | refine blD ?_ ?_ _ | refine blE ?_ | refine blF _ ?_ | refine blG ?_ _ | refine blH ?_ | refine blI ?_ ?_ _) | (simp only [World.size_alloc]; omega) | (simp <;> omega)))) hbd hn)).mono ?_); rintro e w' ⟨z, rfl, hz, rfl⟩)
    ((try simp only [Exit.inBlock, Exit.then]); refine bodyPost_ret (results_cell_t rfl _ _ (0, 0) rfl (z.boxes2.2.set_ 0 _) Try.underlying24 rfl (by kernel_rfl)) rfl ?_)
    exact ⟨⟨_, _, _, rfl, RdReg.nil⟩, (by repeat (first | with_reducible (first | exact blA | exact blB | refine blC _ ?_ | refine blD ?_ ?_ _ | refine blE ?_ | refine blF _ ?_ | refine blG ?_ _ | refine blH ?_ | refine blI ?_ ?_ _) | (simp only [World.size_alloc]; omega) | (simp <;> omega)))⟩
  · have e1 : dilE [] k = 0 := by unfold dilE; rw [if_neg (by simp [hn]), if_pos rfl]
    have e2 : dilR [] k = [] := by unfold dilR; rw [if_neg (by simp)]
    rw [e1, e2]
    clear e1 e2
    have H0 := Lib.hid (show RdReg w (.agg #[.slice A 0 capA]) [] from H.out)
    go_enter Try.func16, Try.ntmps16
    go_wp2_with (first
      | (go_at_call 41; (with_reducible refine (Kin.callK (W := (w.alloc (.cells #[.slice A 0 capA] 24)).alloc (.cells #[.slice none 0 0] 24)) (by repeat (first | with_reducible (first | exact blA | exact blB | refine blC _ ?_ | refine blD ?_ ?_ _ | refine blE ?_ | refine blF _ ?_ | refine blG ?_ _ | refine blH ?_ | refine blI ?_ ?_ _) | (simp only [World.size_alloc]; omega) | (simp <;> omega))) (validM_is _ [] k _ (H0.out.below (by repeat (first | with_reducible (first | exact blA | exact blB | refine blC _ ?_ | refine blD ?_ ?_ _ | refine blE ?_ | refine blF _ ?_ | refine blG ?_ _ | refine blH ?_ | refine blI ?_ ?_ _) | (simp only [World.size_alloc]; omega) | (simp <;> omega)))) hbd hn)).mono ?_); rintro e w' ⟨z, rfl, hz, rfl⟩)
      | (go_at_call 42; (with_reducible refine (Kin.callK (W := (w.alloc (.cells #[.slice A 0 capA] 24)).alloc (.cells #[.slice none 0 0] 24)) (by repeat (first | with_reducible (first | exact blA | exact blB | refine blC _ ?_ | refine blD ?_ ?_ _ | refine blE ?_ | refine blF _ ?_ | refine blG ?_ _ | refine blH ?_ | refine blI ?_ ?_ _) | (simp only [World.size_alloc]; omega) | (simp <;> omega))) (boxReg_is (p := ((0, 0), (0, 0))) _ [] _ (H0.out.below (by repeat (first | with_reducible (first | exact blA | exact blB | refine blC _ ?_ | refine blD ?_ ?_ _ | refine blE ?_ | refine blF _ ?_ | refine blG ?_ _ | refine blH ?_ | refine blI ?_ ?_ _) | (simp only [World.size_alloc]; omega) | (simp <;> omega)))) hbd (by simp [boxR]) (b := false) (by simp [boxOk]))).mono ?_); rintro e w' ⟨z, rfl, hz, rfl⟩; (have hB := Lib.hid z.boxes2.2; have q0 : (Kin.wd z).cell? ⟨w.heap.size + 1, 0, none⟩ = some (.slice none 0 0) := hB.out.cell 0; have qf : (Kin.wd z).frozen? ⟨w.heap.size + 1, 0, none⟩ = false := hB.out.frozen 0; have ql := hB.out.lt; have ql1 := Nat.lt_succ_of_lt ql; have ql2 : w.heap.size < (Kin.wd z).heap.size := Nat.lt_of_succ_lt ql)))
    ((try simp only [Exit.inBlock, Exit.then]); refine bodyPost_ret (results_cell_t rfl _ _ (0, 0) rfl ((hB.out.set_ 0 _).below (Below.alloc (Below.alloc (Below.refl _ _) (Nat.le_refl _) _) (le_alloc (Nat.le_refl _) _) _)) Try.underlying24 rfl (by kernel_rfl)) rfl ?_)
    exact ⟨⟨_, _, _, rfl, RdReg.nil⟩, (by repeat (first | with_reducible (first | exact blA | exact blB | refine blC _ ?_ | refine blD ?_ ?_ _ | refine blE ?_ | refine blF _ ?_ | refine blG ?_ _ | refine blH ?_ | refine blI ?_ ?_ _) | (simp only [World.size_alloc]; omega) | (simp <;> omega)))⟩
theorem box_bd {rows : List Reg.Row} (h : rvalid rows = true) (hn : rows ≠ []) : -4096 ≤ (boxR rows).1.1 ∧ (boxR rows).1.1 ≤ 4096 ∧ -4096 ≤ (boxR rows).1.2 ∧ (boxR rows).1.2 ≤ 4096 ∧ -4096 ≤ (boxR rows).2.1 ∧ (boxR rows).2.1 ≤ 4096 ∧ -4096 ≤ (boxR rows).2.2 ∧ (boxR rows).2.2 ≤ 4096 := by
  have hv := rvalid_iff.1 h
  have hp : 0 < rows.length := List.length_pos_iff.2 hn
  have q0 : rows[0]? = some rows[0] := List.getElem?_eq_getElem (by omega)
  have q1 : rows[rows.length - 1]? = some rows[rows.length - 1] := List.getElem?_eq_getElem (by omega)
  have e : boxR rows = ((bxLo rows rows.length, rows[0].1), (bxHi rows rows.length, rows[rows.length - 1].1)) := by unfold boxR; rw [if_pos ⟨h, hn⟩, q0, q1]; rfl
  have a1 := bxLo_bd hv rows.length (Nat.le_refl _)
  have a2 := bxHi_bd hv rows.length (Nat.le_refl _)
  have a3 := (hv.1 _ (List.mem_of_getElem? q0)).1
  have a4 := (hv.1 _ (List.mem_of_getElem? q1)).1
  unfold okC at a3 a4
  rw [decide_eq_true_eq] at a3 a4
  rw [e]
  simp only
  omega
set_option maxRecDepth 100000 in
set_option maxHeartbeats 8000000 in
/-- the dilation would leave the range -/
theorem dil_far (v : Value) (rows : List Reg.Row) (k : Int) (w : World) (h : RdReg w v rows) (hbd : RBd rows) (hn : rows ≠ []) (hE : dilE rows k = 8) :
    Calls Try.prog 16 #[v, .int .i64 k] w fun e w' => (∃ A n c, e = .returned (.tuple #[.agg #[.slice A n c], .int .i64 (dilE rows k)]) ∧ RdReg w' (.agg #[.slice A n c]) (dilR rows k)) ∧ Below w.heap.size w w' := by
  have H := Lib.hid h
  obtain ⟨A, capA, rfl⟩ := h.slice_
  clear h
  have e2 : dilR rows k = [] := by unfold dilR; rw [if_neg (by rw [hE]; simp)]
  rw [hE, e2]
  clear e2
  obtain ⟨h1, h2⟩ : (reachOk k && rvalid rows) = true ∧ ((boxR rows).1.1 - k < -4096 ∨ (boxR rows).1.2 - k < -4096 ∨ 4096 ≤ (boxR rows).2.1 + k ∨ 4096 ≤ (boxR rows).2.2 + k) := by
    unfold dilE at hE
    split at hE
    · omega
    · try rw [if_neg hn] at hE
      split at hE
      · exact ⟨by simp_all, by assumption⟩
      · omega
  have hr : 0 ≤ k ∧ k ≤ 64 ∧ rvalid rows = true := by simpa [reachOk, and_assoc] using h1
  obtain ⟨k0, k1, hv⟩ := hr
  have hb := box_bd hv hn
  have hok : boxOk rows = true := by cases rows <;> simp_all [boxOk]
  obtain ⟨⟨⟨lx, ly⟩, hx, hy⟩, hp⟩ : ∃ p, boxR rows = p := ⟨_, rfl⟩
  rw [hp] at h2 hb
  simp only at h2 hb
  have HP := Lib.hid hp
  clear hE hp hn
  have hw1 : IntKind.i64.wrap (min lx ly - k) = min lx ly - k := IntWalk.i64_in _ (by omega)
  have hw2 : IntKind.i64.wrap (max hx hy + k) = max hx hy + k := IntWalk.i64_in _ (by omega)
  have hc : min lx ly - k < -4096 ∨ (¬ min lx ly - k < -4096 ∧ 4096 ≤ max hx hy + k) := by omega
  clear h2 hb
  go_enter Try.func16, Try.ntmps16
  rcases hc with hc | ⟨hc, hd⟩
  all_goals
    go_wp2_with (first
      | (go_at_call 41; (with_reducible refine (Kin.callK (W := (w.alloc (.cells #[.slice A rows.length capA] 24)).alloc (.cells #[.slice none 0 0] 24)) (by repeat (first | with_reducible (first | exact blA | exact blB | refine blC _ ?_ | refine blD ?_ ?_ _ | refine blE ?_ | refine blF _ ?_ | refine blG ?_ _ | refine blH ?_ | refine blI ?_ ?_ _) | (simp only [World.size_alloc]; omega) | (simp <;> omega))) (validM_is _ rows k _ (H.out.below (by repeat (first | with_reducible (first | exact blA | exact blB | refine blC _ ?_ | refine blD ?_ ?_ _ | refine blE ?_ | refine blF _ ?_ | refine blG ?_ _ | refine blH ?_ | refine blI ?_ ?_ _) | (simp only [World.size_alloc]; omega) | (simp <;> omega)))) hbd h1)).mono ?_); rintro e w' ⟨z, rfl, hz, rfl⟩)
      | (go_at_call 42; (with_reducible refine (Kin.callK (W := (w.alloc (.cells #[.slice A rows.length capA] 24)).alloc (.cells #[.slice none 0 0] 24)) (by repeat (first | with_reducible (first | exact blA | exact blB | refine blC _ ?_ | refine blD ?_ ?_ _ | refine blE ?_ | refine blF _ ?_ | refine blG ?_ _ | refine blH ?_ | refine blI ?_ ?_ _) | (simp only [World.size_alloc]; omega) | (simp <;> omega))) (boxReg_is _ rows _ (H.out.below (by repeat (first | with_reducible (first | exact blA | exact blB | refine blC _ ?_ | refine blD ?_ ?_ _ | refine blE ?_ | refine blF _ ?_ | refine blG ?_ _ | refine blH ?_ | refine blI ?_ ?_ _) | (simp only [World.size_alloc]; omega) | (simp <;> omega)))) hbd HP.out hok)).mono ?_); rintro e w' ⟨z, rfl, hz, rfl⟩; (have hB := Lib.hid z.boxes2.2; have q0 : (Kin.wd z).cell? ⟨w.heap.size + 1, 0, none⟩ = some (.slice none 0 0) := hB.out.cell 0; have qf : (Kin.wd z).frozen? ⟨w.heap.size + 1, 0, none⟩ = false := hB.out.frozen 0; have ql := hB.out.lt; have ql1 := Nat.lt_succ_of_lt ql; have ql2 : w.heap.size < (Kin.wd z).heap.size := Nat.lt_of_succ_lt ql)))
    ((try simp only [Exit.inBlock, Exit.then]); refine bodyPost_ret (results_cell_t rfl _ _ (0, 0) rfl ((hB.out.set_ 0 _).below (Below.alloc (Below.alloc (Below.refl _ _) (Nat.le_refl _) _) (le_alloc (Nat.le_refl _) _) _)) Try.underlying24 rfl (by kernel_rfl)) rfl ?_)
    exact ⟨⟨_, _, _, rfl, RdReg.nil⟩, (by repeat (first | with_reducible (first | exact blA | exact blB | refine blC _ ?_ | refine blD ?_ ?_ _ | refine blE ?_ | refine blF _ ?_ | refine blG ?_ _ | refine blH ?_ | refine blI ?_ ?_ _) | (simp only [World.size_alloc]; omega) | (simp <;> omega)))⟩
theorem run_mkmap (t : TypeId) (w : World) : (Instr.makeMap t none).run Try.prog w = .ok (.map (some w.heap.size)) (w.alloc (.map #[] 0)) := rfl
theorem run_storeF (a : Addr) (m : Mode) (fn : Fn) (first captured : Array Value) (w : World) : (store a (.func fn first captured) m).run Try.prog w = stored Try.prog w a (.func fn first captured) m := run_store Try.prog w a _ m rfl
attribute [local go_sem] run_mkmap run_storeF
/-- runs lie in another block than a map -/
theorem map_far {W : World} {v : Value} {l : List Run} {b n : Nat} {f : Int → Value} (h : Rd 2 encRun W v l) (hm : MapF W b n f) : l = [] ∨ v.ownBlock ≠ some b := by
  obtain ⟨D, ⟨es, clock, hb, _⟩, _⟩ := hm
  obtain ⟨A', cap, rfl, _, h⟩ := h
  rcases h with h | ⟨g, off, rfl, hlt, hcell⟩
  · exact .inl h
  rcases l with _ | ⟨r, l⟩
  · exact .inl rfl
  right
  intro e
  have e : g = b := by simpa [Value.ownBlock] using e
  subst e
  have h0 := hcell 0 r rfl 0 _ rfl
  simp [World.cell?, hb] at h0
theorem win_in {rows : List Reg.Row} {k : Int} (h : dilE rows k = 0) (y : Int) (m : Nat) : SepIn (winTo (fun j => growL (rwAt rows j) k) y k m) := by
  obtain ⟨hk, hv, hb⟩ := dilE_iff.1 h
  have hk := reach_iff.1 hk
  have hs := winTo_spec (g := fun j => growL (rwAt rows j) k) (fun j => grow_valid) y k m
  refine sepIn_of_mem (valid_iff.1 hs.1).1 fun x hx => ?_
  obtain ⟨j, h1, h2, h3⟩ := (hs.2 x).1 hx
  obtain ⟨i, h4, h5, h6⟩ := (mem_grow (grow_in (rwAt_in (rvalid_iff.1 hv) j) hk.1 hk.2) x).1 h3
  rw [← memC_rwAt (rvalid_iff.1 hv)] at h6
  have := hb _ _ h6
  omega
theorem win_len {rows : List Reg.Row} {k : Int} (h : dilE rows k = 0) (y : Int) (m : Nat) : (winTo (fun j => growL (rwAt rows j) k) y k m).length ≤ 16384 := Nat.le_trans (sepIn_len (win_in h y m)) (by decide)
theorem grown_len {rows : List Reg.Row} {k : Int} (h : dilE rows k = 0) (j : Int) : (growL (rwAt rows j) k).length ≤ 16384 := by
  have := win_len h (j + k) 0
  have e : winTo (fun j => growL (rwAt rows j) k) (j + k) k 0 = growL (rwAt rows j) k := by show growL (rwAt rows (j + k - k)) k = _; rw [show j + k - k = j by omega]
  rwa [e] at this
theorem rwAt_take {rows : List Reg.Row} (h : VReg rows) {j : Nat} {r : Reg.Row} (hr : rows[j]? = some r) (y : Int) : rwAt (rows.take (j + 1)) y = if y = r.1 then r.2 else rwAt (rows.take j) y := by
  have hs := h.2
  obtain ⟨hj, rfl⟩ := List.getElem?_eq_some_iff.1 hr
  have e : rows.take (j + 1) = rows.take j ++ [rows[j]] := by rw [List.take_add_one, hr]; rfl
  rw [e]
  unfold rwAt
  rw [List.find?_append]
  by_cases hy : y = rows[j].1
  · rw [if_pos hy]
    have : (rows.take j).find? (fun w => w.1 == y) = none := by
      rw [List.find?_eq_none]
      intro w hw
      obtain ⟨i, hi, rfl⟩ := List.getElem_of_mem hw
      have hi2 : i < j := by simp at hi; omega
      have := List.pairwise_iff_getElem.1 hs i j (by omega) hj hi2
      simp [List.getElem_take, hy]
      omega
    rw [this, hy]
    simp
  · rw [if_neg hy]
    have : ([rows[j]] : List Reg.Row).find? (fun w => w.1 == y) = none := by simp; omega
    rw [this]
    simp
theorem growL_nil (k : Int) : growL [] k = [] := by
  have h1 : ∀ x, mem (growL [] k) x = false := fun x => by
    by_cases h : growE [] k = 0
    · cases hm : mem (growL [] k) x
      · rfl
      · obtain ⟨y, _, _, h2⟩ := (mem_grow h x).1 hm
        simp [mem_nil] at h2
    · unfold growL growE at *
      split
      · rename_i hk; rw [if_pos hk] at h; exact absurd rfl h
      · rfl
  exact (empty_iff grow_valid).2 h1
theorem dil_world (x : World) (lx ly hx hy : Int) (m f : Value) :
    ((((x.alloc (.cells #[.int .i64 lx, .int .i64 ly] 38)).alloc (.cells #[.int .i64 hx, .int .i64 hy] 38)).alloc (.map #[] 0)).alloc (.cells #[m, f] 55)).cell? ⟨x.heap.size, 1, none⟩ = some (.int .i64 ly) ∧
    ((((x.alloc (.cells #[.int .i64 lx, .int .i64 ly] 38)).alloc (.cells #[.int .i64 hx, .int .i64 hy] 38)).alloc (.map #[] 0)).alloc (.cells #[m, f] 55)).cell? ⟨x.heap.size + 1, 1, none⟩ = some (.int .i64 hy) ∧
    Blk ((((x.alloc (.cells #[.int .i64 lx, .int .i64 ly] 38)).alloc (.cells #[.int .i64 hx, .int .i64 hy] 38)).alloc (.map #[] 0)).alloc (.cells #[m, f] 55)) (x.heap.size + 1 + 1 + 1) 55 #[m, f] ∧
    MapF ((((x.alloc (.cells #[.int .i64 lx, .int .i64 ly] 38)).alloc (.cells #[.int .i64 hx, .int .i64 hy] 38)).alloc (.map #[] 0)).alloc (.cells #[m, f] 55)) (x.heap.size + 1 + 1) 0 (fun _ => .slice none 0 0) := by
  refine ⟨((Blk.new x 38 #[.int .i64 lx, .int .i64 ly]).below (by repeat (first | with_reducible (first | exact blA | exact blB | refine blC _ ?_ | refine blD ?_ ?_ _ | refine blE ?_ | refine blF _ ?_ | refine blG ?_ _ | refine blH ?_ | refine blI ?_ ?_ _) | (simp only [World.size_alloc]; omega) | (simp <;> omega)))).cell 1, ?_, ?_, ?_⟩
  · have h := ((Blk.new (x.alloc (.cells #[.int .i64 lx, .int .i64 ly] 38)) 38 #[.int .i64 hx, .int .i64 hy]).below (Below.alloc (Below.alloc (Below.refl _ _) (Nat.le_refl _) (.map #[] 0)) (le_alloc (Nat.le_refl _) _) (.cells #[m, f] 55))).cell 1
    simpa using h
  · have := Blk.new (((x.alloc (.cells #[.int .i64 lx, .int .i64 ly] 38)).alloc (.cells #[.int .i64 hx, .int .i64 hy] 38)).alloc (.map #[] 0)) 55 #[m, f]
    simpa using this
  · have h := MapF.made ((x.alloc (.cells #[.int .i64 lx, .int .i64 ly] 38)).alloc (.cells #[.int .i64 hx, .int .i64 hy] 38))
    have h2 := h.below (Below.alloc (Below.refl _ _) (Nat.le_refl _) (.cells #[m, f] 55))
    simpa using h2
set_option maxRecDepth 100000 in
set_option maxHeartbeats 16000000 in
theorem dil_go (v : Value) (rows : List Reg.Row) (k : Int) (w : World) (h : RdReg w v rows) (hbd : RBd rows) (hn : rows ≠ []) (hE : dilE rows k = 0) :
    Calls Try.prog 16 #[v, .int .i64 k] w fun e w' => (∃ A n c, e = .returned (.tuple #[.agg #[.slice A n c], .int .i64 (dilE rows k)]) ∧ RdReg w' (.agg #[.slice A n c]) (dilR rows k)) ∧ Below w.heap.size w w' := by
  have H := Lib.hid h
  obtain ⟨A, capA, rfl⟩ := h.slice_
  clear h
  have e2 : dilR rows k = dilRows rows k := by unfold dilR; rw [if_pos ⟨hE, hn⟩]
  rw [hE, e2]
  clear e2
  obtain ⟨k0, k1, hv, hbx⟩ := dilE_zero hE
  have hbx := hbx hn
  have h1 : (reachOk k && rvalid rows) = true := by rw [hv, reach_iff.2 ⟨k0, k1⟩]; rfl
  have hb := box_bd hv hn
  have hok : boxOk rows = true := by cases rows <;> simp_all [boxOk]
  have HD := Lib.hid (show dilRows rows k = rowsOn (dilW rows k) (upFrom ((boxR rows).1.2 - k) ((boxR rows).2.2 + k + 1 - ((boxR rows).1.2 - k)).toNat) from rfl)
  obtain ⟨⟨⟨lx, ly⟩, hx, hy⟩, hp⟩ : ∃ p, boxR rows = p := ⟨_, rfl⟩
  rw [hp] at hbx hb HD
  simp only at hbx hb HD
  have HP := Lib.hid hp
  have hE0 := hE
  clear hE hp hn
  have hw1 : IntKind.i64.wrap (min lx ly - k) = min lx ly - k := IntWalk.i64_in _ (by omega)
  have hw2 : IntKind.i64.wrap (max hx hy + k) = max hx hy + k := IntWalk.i64_in _ (by omega)
  have hc1 : ¬ min lx ly - k < -4096 := by omega
  have hc2 : ¬ 4096 ≤ max hx hy + k := by omega
  go_enter Try.func16, Try.ntmps16
  go_wp2_with (first
      | (go_at_call 41; (with_reducible refine (Kin.callK (W := (w.alloc (.cells #[.slice A rows.length capA] 24)).alloc (.cells #[.slice none 0 0] 24)) (by repeat (first | with_reducible (first | exact blA | exact blB | refine blC _ ?_ | refine blD ?_ ?_ _ | refine blE ?_ | refine blF _ ?_ | refine blG ?_ _ | refine blH ?_ | refine blI ?_ ?_ _) | (simp only [World.size_alloc]; omega) | (simp <;> omega))) (validM_is _ rows k _ (H.out.below (by repeat (first | with_reducible (first | exact blA | exact blB | refine blC _ ?_ | refine blD ?_ ?_ _ | refine blE ?_ | refine blF _ ?_ | refine blG ?_ _ | refine blH ?_ | refine blI ?_ ?_ _) | (simp only [World.size_alloc]; omega) | (simp <;> omega)))) hbd h1)).mono ?_); rintro e w' ⟨z, rfl, hz, rfl⟩)
      | (go_at_call 42; (with_reducible refine (Kin.callK (W := (w.alloc (.cells #[.slice A rows.length capA] 24)).alloc (.cells #[.slice none 0 0] 24)) (by repeat (first | with_reducible (first | exact blA | exact blB | refine blC _ ?_ | refine blD ?_ ?_ _ | refine blE ?_ | refine blF _ ?_ | refine blG ?_ _ | refine blH ?_ | refine blI ?_ ?_ _) | (simp only [World.size_alloc]; omega) | (simp <;> omega))) (boxReg_is _ rows _ (H.out.below (by repeat (first | with_reducible (first | exact blA | exact blB | refine blC _ ?_ | refine blD ?_ ?_ _ | refine blE ?_ | refine blF _ ?_ | refine blG ?_ _ | refine blH ?_ | refine blI ?_ ?_ _) | (simp only [World.size_alloc]; omega) | (simp <;> omega)))) hbd HP.out hok)).mono ?_); rintro e w' ⟨z, rfl, hz, rfl⟩; (have hB := Lib.hid z.boxes2.2; have q0 : (Kin.wd z).cell? ⟨w.heap.size + 1, 0, none⟩ = some (.slice none 0 0) := hB.out.cell 0; have qf : (Kin.wd z).frozen? ⟨w.heap.size + 1, 0, none⟩ = false := hB.out.frozen 0; have ql := hB.out.lt; have ql1 := Nat.lt_succ_of_lt ql; have ql2 : w.heap.size < (Kin.wd z).heap.size := Nat.lt_of_succ_lt ql; have c0 : (Kin.wd z).cell? ⟨w.heap.size, 0, none⟩ = some (.slice A rows.length capA) := z.boxes2.1.cell 0; have d1 : w.heap.size < (Kin.wd z).heap.size + 1 := Nat.lt_succ_of_lt ql2; have d2 : w.heap.size < (Kin.wd z).heap.size + 1 + 1 := Nat.lt_succ_of_lt d1; have d3 : w.heap.size < (Kin.wd z).heap.size + 1 + 1 + 1 := Nat.lt_succ_of_lt d2)))
  have hlr := (vreg_len (rvalid_iff.1 hv)).1
  have HVR := Lib.hid (rvalid_iff.1 hv)
  have HE0 := Lib.hid (dilE_iff.2 (dilE_iff.1 hE0))
  obtain ⟨y9, hX⟩ : ∃ y9 : Kin z.1, y9.1 = (((z.1.alloc (.cells #[.int .i64 lx, .int .i64 ly] 38)).alloc (.cells #[.int .i64 hx, .int .i64 hy] 38)).alloc (.map #[] 0)).alloc (.cells #[.map (some (z.1.heap.size + 1 + 1)), .func (.func 43) #[] #[]] 55) := ⟨⟨(((z.1.alloc (.cells #[.int .i64 lx, .int .i64 ly] 38)).alloc (.cells #[.int .i64 hx, .int .i64 hy] 38)).alloc (.map #[] 0)).alloc (.cells #[.map (some (z.1.heap.size + 1 + 1)), .func (.func 43) #[] #[]] 55), (by repeat (first | with_reducible (first | exact blA | exact blB | refine blC _ ?_ | refine blD ?_ ?_ _ | refine blE ?_ | refine blF _ ?_ | refine blG ?_ _ | refine blH ?_ | refine blI ?_ ?_ _) | (simp only [World.size_alloc]; omega) | (simp <;> omega)))⟩, rfl⟩
  rw [← hX]
  obtain ⟨a1, a2, hwb, hm0⟩ := dil_world z.1 lx ly hx hy (.map (some (z.1.heap.size + 1 + 1))) (.func (.func 43) #[] #[])
  rw [← hX] at a1 a2 hwb hm0
  have a3 := hwb.lt
  have HWb := Lib.hid hwb
  have HM0 := Lib.hid hm0
  clear hwb hm0
  have HZr := Lib.hid (rows_op (by have := (H.out.below (show Below w.heap.size w z.1 from (by repeat (first | with_reducible (first | exact blA | exact blB | refine blC _ ?_ | refine blD ?_ ?_ _ | refine blE ?_ | refine blF _ ?_ | refine blG ?_ _ | refine blH ?_ | refine blI ?_ ?_ _) | (simp only [World.size_alloc]; omega) | (simp <;> omega))))); obtain ⟨s, e, h⟩ := this; cases e; exact h : RdRows z.1 (.slice A rows.length capA) rows))
  clear hX d1 d2 d3 hw1 hw2 hc1 hc2
  go_loopw [53] (fun i wr => ∃ j : Nat, j ≤ rows.length ∧ i = .int .i64 j ∧ ∃ f, Hid (MapF wr (z.1.heap.size + 1 + 1) j f) ∧ Hid (∀ y, Rd 2 encRun wr (f y) (growL (rwAt (rows.take j) y) k)) ∧ Hid (y9.1.grownBy wr (some (z.1.heap.size + 1 + 1))) ∧ Hid (Below z.1.heap.size z.1 wr)) (fun i _ => rows.length - (intOf i).toNat)
  case atStart => exact ⟨0, Nat.zero_le _, rfl, _, HM0, Lib.hid (fun y => by rw [List.take_zero, rwAt_nil, growL_nil]; exact Rd.nil), Lib.hid (World.grownBy.refl _ _), Lib.hid y9.2⟩
  case round =>
    clear HM0
    obtain ⟨j, hj, rfl, f, HM, HF, HG, hyB⟩ := hrel
    obtain ⟨y, rfl⟩ : ∃ y : Kin z.1, y.1 = wr := ⟨⟨wr, hyB.out⟩, rfl⟩
    clear hyB
    have HW := Lib.hid (HWb.out.grown HG.out (by simp))
    have e30 : y.1.cell? ⟨z.1.heap.size + 1 + 1 + 1, 0, none⟩ = some (.map (some (z.1.heap.size + 1 + 1))) := HW.out.cell 0
    have e31 : y.1.cell? ⟨z.1.heap.size + 1 + 1 + 1, 1, none⟩ = some (.func (.func 43) #[] #[]) := HW.out.cell 1
    have e3l := HW.out.lt
    by_cases hlt : j < rows.length
    · obtain ⟨r, hr⟩ : ∃ el_, rows[j]? = some el_ := ⟨_, List.getElem?_eq_getElem hlt⟩
      obtain ⟨bA, offA, rfl, hbA, hcA⟩ := HZr.out j _ hr
      obtain ⟨S, capS, r_0, r_1, hcapS, hrS⟩ := hcA j r hr
      have HRS := Lib.hid hrS
      have Hr := Lib.hid hr
      have hrm := HVR.out.1 r (List.mem_of_getElem? hr)
      have hri := (fine_sepIn.1 hrm.2).1
      have hrl := sepIn_len hri
      have hry : -4096 ≤ r.1 ∧ r.1 < 4096 := by have := hrm.1; unfold okC at this; simpa using this
      clear hr hcA hrS
      go_wp2
      obtain ⟨yr, hyr⟩ : ∃ yr : Kin z.1, yr.1 = y.1.alloc (.cells #[.int .i64 r.1, .slice S r.2.length capS] 47) := ⟨⟨y.1.alloc (.cells #[.int .i64 r.1, .slice S r.2.length capS] 47), (by repeat (first | with_reducible (first | exact blA | exact blB | refine blC _ ?_ | refine blD ?_ ?_ _ | refine blE ?_ | refine blF _ ?_ | refine blG ?_ _ | refine blH ?_ | refine blI ?_ ?_ _) | (simp only [World.size_alloc]; omega) | (simp <;> omega)))⟩, rfl⟩
      rw [← hyr]
      have hbr := Blk.new y.1 47 #[.int .i64 r.1, .slice S r.2.length capS]
      rw [← hyr] at hbr
      have g0 : yr.1.cell? ⟨y.1.heap.size, 0, none⟩ = some (.int .i64 r.1) := hbr.cell 0
      have g1 : yr.1.cell? ⟨y.1.heap.size, 1, none⟩ = some (.slice S r.2.length capS) := hbr.cell 1
      have gl := hbr.lt
      have hyyr : Below y.1.heap.size y.1 yr.1 := by rw [hyr]; exact (by repeat (first | with_reducible (first | exact blA | exact blB | refine blC _ ?_ | refine blD ?_ ?_ _ | refine blE ?_ | refine blF _ ?_ | refine blG ?_ _ | refine blH ?_ | refine blI ?_ ?_ _) | (simp only [World.size_alloc]; omega) | (simp <;> omega)))
      have g2 : yr.1.cell? ⟨z.1.heap.size + 1 + 1 + 1, 0, none⟩ = some (.map (some (z.1.heap.size + 1 + 1))) := (hyyr.cell (p := ⟨z.1.heap.size + 1 + 1 + 1, 0, none⟩) e3l).trans e30
      have gl2 := Nat.lt_of_lt_of_le e3l hyyr.size
      have HMr := Lib.hid (HM.out.below hyyr)
      have HFr := Lib.hid (fun y' => (HF.out y').below hyyr)
      have HBy := Lib.hid hyyr
      have HUP := Lib.hid (fun (x : World) (hx : Below yr.1.heap.size yr.1 x) (u : Value) => MapF.update (HMr.out.below hx) (y := r.1) (i64_wf (by omega)) (show j < maxLen by unfold maxLen; omega) u)
      have HBR := Lib.hid hbr
      have HWr := Lib.hid (HW.out.below hyyr)
      clear hbr hyyr hyr
      go_region_held (fun w' => w'.cell? ⟨(Kin.wd z).heap.size + 1 + 1 + 1, 0, none⟩ = some (.map (some ((Kin.wd z).heap.size + 1 + 1))) ∧ w'.cell? ⟨(Kin.wd y).heap.size, 0, none⟩ = some (.int .i64 r.1) ∧ w'.cell? ⟨(Kin.wd y).heap.size, 1, none⟩ = some (.slice S r.2.length capS)) (refine ⟨?_, ?_, ?_⟩ <;> first | assumption | (refine (Kin.cell (W := (Kin.wd yr)) _ ?_).trans ?_ <;> assumption) | simp [*, World.cell?_alloc_some, World.cell?_setCell_far] | ((refine (World.cell?_setCell_other (by simp)).trans ?_); first | assumption | simp [*])) ((go_at_call 44; (with_reducible refine (Kin.callK (W := (Kin.wd yr)) (by repeat (first | with_reducible (first | exact blA | exact blB | refine blC _ ?_ | refine blD ?_ ?_ _ | refine blE ?_ | refine blF _ ?_ | refine blG ?_ _ | refine blH ?_ | refine blI ?_ ?_ _) | (simp only [World.size_alloc]; omega) | (simp <;> omega))) (grow_any _ r.2 k _ (HRS.out.below (by repeat (first | with_reducible (first | exact blA | exact blB | refine blC _ ?_ | refine blD ?_ ?_ _ | refine blE ?_ | refine blF _ ?_ | refine blG ?_ _ | refine blH ?_ | refine blI ?_ ?_ _) | (simp only [World.size_alloc]; omega) | (simp <;> omega)))) (by omega))).mono ?_); rintro e w' ⟨zg, ⟨u, rfl, hu⟩, hzg, rfl⟩; (obtain ⟨w2, hrun, hm2, hg2⟩ := HUP.out (Kin.wd zg) zg.2 u; have HU := Lib.hid hu; have HM2 := Lib.hid hm2; have HG2 := Lib.hid hg2; have k0' : w2.cell? ⟨(Kin.wd y).heap.size, 0, none⟩ = some (.int .i64 r.1) := ((HBR.out.below zg.2).grown hg2 (by have := HMr.out.lt; simp; omega)).cell 0; have k1' : w2.cell? ⟨(Kin.wd y).heap.size, 1, none⟩ = some (.slice S r.2.length capS) := ((HBR.out.below zg.2).grown hg2 (by have := HMr.out.lt; simp; omega)).cell 1; have k2' : w2.cell? ⟨(Kin.wd z).heap.size + 1 + 1 + 1, 0, none⟩ = some (.map (some ((Kin.wd z).heap.size + 1 + 1))) := ((HWr.out.below zg.2).grown hg2 (by simp)).cell 0; clear hu hm2 hg2)))
      all_goals
        go_wp2
        have hzz : Below z.1.heap.size z.1 zg.1 := yr.2.trans (zg.2.mono yr.2.size)
        go_roundw
        case rel => exact ⟨j + 1, by omega, by go_num, _, HM2, Lib.hid (fun y' => by
            rw [rwAt_take HVR.out Hr.out]
            by_cases hy' : y' = r.1
            · rw [if_pos hy', if_pos hy']
              exact HU.out.grown HG2.out (map_far HU.out (HMr.out.below zg.2))
            · rw [if_neg hy', if_neg hy']
              have hr0 := (HFr.out y').below zg.2
              exact hr0.grown HG2.out (map_far hr0 (HMr.out.below zg.2))), Lib.hid (grownBy_trans (grownBy_below2 HG.out ((HBy.out.trans (zg.2.mono HBy.out.size)).mono HG.out.size)) HG2.out), Lib.hid (hzz.trans (grownBy_below HG2.out hzz.size (Nat.le_trans (Nat.le_succ _) (Nat.le_succ _))))⟩
        case measure => simp [intOf]; omega
    · have ej : j = rows.length := by omega
      have HF2 := Lib.hid (show ∀ y', Rd 2 encRun y.1 (f y') (growL (rwAt rows y') k) from fun y' => by have := HF.out y'; rwa [ej, List.take_length] at this)
      have HA9 := Lib.hid (show y.1.cell? ⟨z.1.heap.size, 1, none⟩ = some (.int .i64 ly) from (World.cell?_of_block (HG.out.block z.1.heap.size (by omega) (by simp; omega))).trans a1)
      have HB9 := Lib.hid (show y.1.cell? ⟨z.1.heap.size + 1, 1, none⟩ = some (.int .i64 hy) from (World.cell?_of_block (HG.out.block (z.1.heap.size + 1) (by omega) (by simp))).trans a2)
      have a1' := HA9.out
      have a2' := HB9.out
      have hlow : y9.1.heap.size ≤ y.1.heap.size := HG.out.size
      have d1 : z.1.heap.size < y.1.heap.size := by omega
      have d2 : z.1.heap.size + 1 < y.1.heap.size := by omega
      have dw := y.lt0 ql
      have dw2 := y.lt0 ql2
      have hwy : Below w.heap.size w y.1 := (by repeat (first | with_reducible (first | exact blA | exact blB | refine blC _ ?_ | refine blD ?_ ?_ _ | refine blE ?_ | refine blF _ ?_ | refine blG ?_ _ | refine blH ?_ | refine blI ?_ ?_ _) | (simp only [World.size_alloc]; omega) | (simp <;> omega)))
      have hwk : IntKind.i64.wrap (ly - k) = ly - k := IntWalk.i64_in _ (by omega)
      have HBy := Lib.hid (hB.out.below y.2)
      clear HF HG a1 a2 HWb HW ej
      go_wp2
      go_loopw [13] (fun o wr => ∃ n : Nat, n ≤ (hy + k + 1 - (ly - k)).toNat ∧ o = .int .i64 (ly - k + n) ∧ ∃ S, Hid (OwnRows (y.1.heap.size + 1) wr S (rowsOn (dilW rows k) (upFrom (ly - k) n))) ∧ Hid (Blk wr y.1.heap.size 24 #[S]) ∧ Hid (Below y.1.heap.size y.1 wr)) (fun o _ => (hy + k + 1 - intOf o).toNat)
      case atStart => exact ⟨0, Nat.zero_le _, by simp, _, Lib.hid OwnN.nil, Lib.hid (Blk.new _ _ _), Lib.hid (by repeat (first | with_reducible (first | exact blA | exact blB | refine blC _ ?_ | refine blD ?_ ?_ _ | refine blE ?_ | refine blF _ ?_ | refine blG ?_ _ | refine blH ?_ | refine blI ?_ ?_ _) | (simp only [World.size_alloc]; omega) | (simp <;> omega)))⟩
      case round =>
        obtain ⟨n, hn, rfl, S, HO, HP6, hyB⟩ := hrel
        obtain ⟨y6, rfl⟩ : ∃ y6 : Kin y.1, y6.1 = wr := ⟨⟨wr, hyB.out⟩, rfl⟩
        clear hyB
        have hwh : IntKind.i64.wrap (hy + k) = hy + k := IntWalk.i64_in _ (by omega)
        by_cases hlt : ly - k + (n : Int) ≤ hy + k
        · obtain ⟨hs, hown, hnest, hap⟩ := HO.out
          obtain ⟨AS, nS, cS, rfl⟩ := own_slice hown
          have HOW := Lib.hid hown
          have HNE := Lib.hid hnest
          have HAP := Lib.hid hap
          have hhl := hnest.1
          have hrl := rowsOn_len (dilW rows k) (upFrom (ly - k) n)
          rw [upFrom_len] at hrl
          have p0 : y6.1.cell? ⟨y.1.heap.size, 0, none⟩ = some (.slice AS nS cS) := HP6.out.cell 0
          have pl := HP6.out.lt
          have hwn : IntKind.i64.wrap (ly - k + (n : Int) + 1) = ly - k + (n : Int) + 1 := IntWalk.i64_in _ (by omega)
          have lch : (dilW rows k (ly - k + (n : Int))).length ≤ 8192 := sepIn_len (win_in HE0.out (ly - k + (n : Int)) (2 * k).toNat)
          clear hown hnest hap
          go_wp2_with (go_at_call 45; (with_reducible refine (Kin.callK (W := (Kin.wd y6)) (by repeat (first | with_reducible (first | exact blA | exact blB | refine blC _ ?_ | refine blD ?_ ?_ _ | refine blE ?_ | refine blF _ ?_ | refine blG ?_ _ | refine blH ?_ | refine blI ?_ ?_ _) | (simp only [World.size_alloc]; omega) | (simp <;> omega))) (winrow_any _ j f (fun j => growL (rwAt rows j) k) (ly - k + (n : Int)) k _ (HM.out.below (by repeat (first | with_reducible (first | exact blA | exact blB | refine blC _ ?_ | refine blD ?_ ?_ _ | refine blE ?_ | refine blF _ ?_ | refine blG ?_ _ | refine blH ?_ | refine blI ?_ ?_ _) | (simp only [World.size_alloc]; omega) | (simp <;> omega)))) (fun y' => (HF2.out y').below (by repeat (first | with_reducible (first | exact blA | exact blB | refine blC _ ?_ | refine blD ?_ ?_ _ | refine blE ?_ | refine blF _ ?_ | refine blG ?_ _ | refine blH ?_ | refine blI ?_ ?_ _) | (simp only [World.size_alloc]; omega) | (simp <;> omega)))) ⟨k0, k1⟩ (by omega) (win_len HE0.out _) (grown_len HE0.out))).mono ?_); rintro e w' ⟨zu, ⟨u, rfl, hl⟩, hzu, rfl⟩; (change Rd 2 encRun (Kin.wd zu) u (dilW rows k (ly - k + (n : Int))) at hl; (obtain ⟨L, capL, rfl, hcapL, _⟩ := hl.open_); have HL := Lib.hid hl; clear hl))
          · generalize hGG : dilW rows k (ly - k + (n : Int)) = G at *
            have HGG := Lib.hid hGG
            clear hGG
            go_region_law (first
              | (skip; (refine step_app _ rfl _ _ 45 rfl encRun_len (by decide) oneR zu.1.heap.size 61 (.agg #[.int .i64 0, .int .i64 0]) 16 infoRun rfl Try.underlying45 (.slice (some ⟨zu.1.heap.size, 0, none⟩) 0 0) _ _ _ (by first | rfl | simp [Act.eval, Act.put]) (own_made _ encRun_len zu.1.heap.size _ [] #[] rfl (by repeat (first | with_reducible exact Nat.le_refl _ | assumption | with_reducible refine le_alloc ?_ _ | with_reducible refine le_drew ?_ | with_reducible refine Kin.le _ ?_ | assumption | omega | (simp only [World.size_alloc]; omega))) (by decide)) _ _ _ (by first | rfl | simp [Act.eval, Act.put]) (HL.out.below (by repeat (first | with_reducible (first | exact blA | exact blB | refine blC _ ?_ | refine blD ?_ ?_ _ | refine blE ?_ | refine blF _ ?_ | refine blG ?_ _ | refine blH ?_ | refine blI ?_ ?_ _) | (simp only [World.size_alloc]; omega) | (simp <;> omega)))) ?c1 (by decide) ?c2 ?_; (case c1 => (first | (simp only [List.length_append, List.length_cons, List.length_nil]; omega) | omega | (simp; omega))); (case c2 => exact (by repeat (first | with_reducible exact Nat.le_refl _ | assumption | with_reducible refine le_alloc ?_ _ | with_reducible refine le_drew ?_ | with_reducible refine Kin.le _ ?_ | assumption | omega | (simp only [World.size_alloc]; omega)))); intro v' w1 hown' hg hbel hat'; ((obtain ⟨zc, rfl⟩ : ∃ zc : Kin y6.1, zc.1 = w1 := ⟨⟨w1, Below.trans (by repeat (first | with_reducible (first | exact blA | exact blB | refine blC _ ?_ | refine blD ?_ ?_ _ | refine blE ?_ | refine blF _ ?_ | refine blG ?_ _ | refine blH ?_ | refine blI ?_ ?_ _) | (simp only [World.size_alloc]; omega) | (simp <;> omega))) (hbel.mono zu.2.size)⟩, rfl⟩); have hrc := Rd.own encRun_len hown'; rw [List.nil_append] at hrc; (obtain ⟨AC, capC, rfl, hcapC, _⟩ := hrc.open_); have HRC := Lib.hid hrc; have HFR := Lib.hid (own_fresh hown' (v2 := .slice AS nS cS) (fun q e => Nat.lt_of_lt_of_le (HOW.out.lt q e).2 zu.2.size)); clear hrc hown' hg hbel hat')))
              | (skip; (refine step_app _ rfl _ _ 22 rfl encRow_len (by decide) oneRow (y.1.heap.size + 1) 47 (.agg #[.int .i64 0, .slice none 0 0]) 32 infoRow rfl Try.underlying22 (.slice AS nS cS) _ _ _ (by first | rfl | simp [Act.eval, Act.put]) ((own_below HOW.out zc.2).alloc _) _ _ _ (by first | rfl | simp [Act.eval, Act.put]) (rd_one _ encRow_len _ (hd (ly - k + (n : Int)) AC G.length capC) _ rfl) ?c1 (by decide) ?c2 ?_; (case c1 => (first | (simp only [List.length_append, List.length_cons, List.length_nil]; omega) | omega | (simp; omega))); (case c2 => exact (by repeat (first | with_reducible exact Nat.le_refl _ | assumption | with_reducible refine le_alloc ?_ _ | with_reducible refine le_drew ?_ | with_reducible refine Kin.le _ ?_ | assumption | omega | (simp only [World.size_alloc]; omega)))); intro v' w1 hown' hg hbel hat'; ((obtain ⟨AV, nV, cV, rfl⟩ := own_slice hown'); have hPn : Blk (zc.1.alloc (.cells #[.int .i64 (ly - k + (n : Int)), .slice AC G.length capC] 47)) y.1.heap.size 24 #[.slice AS nS cS] := (HP6.out.below zc.2).below (Below.alloc (Below.refl _ _) (Nat.le_refl _) _); have HP1 := Lib.hid (hPn.grown hg (Ne.symm (own_ne ((own_below HOW.out zc.2).alloc _) hPn (by decide)))); have p1 : w1.cell? ⟨y.1.heap.size, 0, none⟩ = some (.slice AS nS cS) := HP1.out.cell 0; have pf1 : w1.frozen? ⟨y.1.heap.size, 0, none⟩ = false := HP1.out.frozen 0; have pl1 := HP1.out.lt; have HPU := Lib.hid (OwnRows.push ((own_below HOW.out zc.2).alloc _) (HNE.out.below (by repeat (first | with_reducible (first | exact blA | exact blB | refine blC _ ?_ | refine blD ?_ ?_ _ | refine blE ?_ | refine blF _ ?_ | refine blG ?_ _ | refine blH ?_ | refine blI ?_ ?_ _) | (simp only [World.size_alloc]; omega) | (simp <;> omega)))) HAP.out hown' hg hat' (HRC.out.below (by repeat (first | with_reducible (first | exact blA | exact blB | refine blC _ ?_ | refine blD ?_ ?_ _ | refine blE ?_ | refine blF _ ?_ | refine blG ?_ _ | refine blH ?_ | refine blI ?_ ?_ _) | (simp only [World.size_alloc]; omega) | (simp <;> omega)))) (HFR.out.imp (fun h => List.eq_nil_of_length_eq_zero (by simpa using h)) id) hPn); have HBE := Lib.hid hbel; clear hown' hg hbel hat'))))
            all_goals
              have hne : G.isEmpty = false := by
                rw [List.isEmpty_eq_false_iff]; intro e; have : G.length = 0 := (by rw [e]; rfl); omega
              have hb56 : Below y.1.heap.size y.1 (zc.1.alloc (.cells #[.int .i64 (ly - k + (n : Int)), .slice AC G.length capC] 47)) := Below.alloc (y6.2.trans (zc.2.mono y6.2.size)) (by repeat (first | with_reducible exact Nat.le_refl _ | assumption | with_reducible refine le_alloc ?_ _ | with_reducible refine le_drew ?_ | with_reducible refine Kin.le _ ?_ | assumption | omega | (simp only [World.size_alloc]; omega))) _
              have hb5 := hb56.trans (HBE.out.mono (Nat.le_succ _))
              go_wp2
              go_roundw
              case rel => exact ⟨n + 1, by omega, by go_num, _, Lib.hid (by rw [upFrom_succ, rowsOn_snoc, HGG.out, hne]; exact HPU.out.1), Lib.hid HPU.out.2, Lib.hid (Below.setCell hb5 (Nat.le_refl _) _)⟩
              case measure => simp [intOf]; omega
          · rename_i h0
            have hne : (dilW rows k (ly - k + (n : Int))).isEmpty = true := by
              rw [List.isEmpty_iff]; exact List.eq_nil_of_length_eq_zero (by omega)
            go_roundw
            case rel => exact ⟨n + 1, by omega, by go_num, _, Lib.hid (by rw [upFrom_succ, rowsOn_snoc, hne]; simpa using HO.out.below zu.2), Lib.hid (HP6.out.below zu.2), Lib.hid (y6.2.trans (zu.2.mono y6.2.size))⟩
            case measure => simp [intOf]; omega
        · have en : n = (hy + k + 1 - (ly - k)).toNat := by omega
          obtain ⟨hs, hown, _⟩ := HO.out
          obtain ⟨AS, nS, cS, rfl⟩ := own_slice hown
          have p0 : y6.1.cell? ⟨y.1.heap.size, 0, none⟩ = some (.slice AS nS cS) := HP6.out.cell 0
          have pl := HP6.out.lt
          have B36 := Lib.hid (HBy.out.below y6.2)
          have q0 : y6.1.cell? ⟨w.heap.size + 1, 0, none⟩ = some (.slice none 0 0) := B36.out.cell 0
          have qf : y6.1.frozen? ⟨w.heap.size + 1, 0, none⟩ = false := B36.out.frozen 0
          have ql := B36.out.lt
          clear hown
          go_wp2
          ((try simp only [Exit.inBlock, Exit.then]); refine bodyPost_ret (results_cell_t rfl _ _ (0, 0) rfl (B36.out.set_ 0 _) Try.underlying24 rfl (by kernel_rfl)) rfl ?_)
          refine ⟨⟨_, _, _, rfl, ?_⟩, (by repeat (first | with_reducible (first | exact blA | exact blB | refine blC _ ?_ | refine blD ?_ ?_ _ | refine blE ?_ | refine blF _ ?_ | refine blG ?_ _ | refine blH ?_ | refine blI ?_ ?_ _) | (simp only [World.size_alloc]; omega) | (simp <;> omega)))⟩
          rw [HD.out, ← en]
          exact (HO.out.set_ (i := 0) (u := .slice AS nS cS) B36.out (by decide)).reg
theorem dil_any (v : Value) (rows : List Reg.Row) (k : Int) (w : World) (h : RdReg w v rows) (hbd : RBd rows) :
    Calls Try.prog 16 #[v, .int .i64 k] w fun e w' => (∃ A n c, e = .returned (.tuple #[.agg #[.slice A n c], .int .i64 (dilE rows k)]) ∧ RdReg w' (.agg #[.slice A n c]) (dilR rows k)) ∧ Below w.heap.size w w' := by
  by_cases h1 : (reachOk k && rvalid rows) = true
  · by_cases hn : rows = []
    · exact dil_none v rows k w h hbd (.inr ⟨h1, hn⟩)
    · rcases dilE_two h1 with h2 | h2
      · exact dil_go v rows k w h hbd hn h2
      · exact dil_far v rows k w h hbd hn h2
  · exact dil_none v rows k w h hbd (.inl (by simpa using h1))
end Go.Proofs.Ytjppaknajdbkgaa

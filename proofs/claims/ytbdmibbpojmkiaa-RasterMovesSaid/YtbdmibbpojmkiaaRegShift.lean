/- What the region's Shift returns where the region stays in range. -/
import Derived.Test.YtbdmibbpojmkiaaRegBox
import Derived.Test.YtbdmibbpojmkiaaRunsShiftO
import Derived.Lib.MinMax
namespace Go.Proofs.Ytbdmibbpojmkiaa
set_option linter.unusedSimpArgs false
set_option linter.unusedVariables false
set_option maxRecDepth 100000
open Go.RowKit Runs Reg
attribute [local go_sem] Kin.cell Kin.frozen Kin.lt0 Kin.lt1 Kin.lt2 Kin.lt3 run_mkf
theorem boxP_is {p : (Int × Int) × (Int × Int)} {b : Bool} (v : Value) (rows : List Reg.Row) (w : World) (h : RdReg w v rows) (hbd : RBd rows) (hp : boxR rows = p) (hb : boxOk rows = b) :
    Calls Try.prog 35 #[v] w fun e w' => e = .returned (.tuple #[.agg #[.int .i64 p.1.1, .int .i64 p.1.2], .agg #[.int .i64 p.2.1, .int .i64 p.2.2], .bool b]) ∧ Below w.heap.size w w' := by subst hp hb; exact boxReg_any v rows w h hbd
theorem near_is {b : Bool} (n : Int) (w : World) (hb : decide (-8192 ≤ n ∧ n ≤ 8192) = b) :
    Calls Try.prog 36 #[.int .i64 n] w fun e w' => e = .returned (.bool b) ∧ Below w.heap.size w w' := by
  subst hb
  go_enter Try.func36, Try.ntmps36
  go_wp2
  all_goals
    go_ret
    exact ⟨ret_bool (by simp [*] <;> omega), (by repeat (first | with_reducible (first | exact blA | exact blB | refine blC _ ?_ | refine blD ?_ ?_ _ | refine blE ?_ | refine blF _ ?_ | refine blG ?_ _ | refine blH ?_ | refine blI ?_ ?_ _) | (simp only [World.size_alloc]; omega) | (simp <;> omega)))⟩
theorem okG_is {b : Bool} (n : Int) (w : World) (hb : okC n = b) :
    Calls Try.prog 37 #[.int .i64 n] w fun e w' => e = .returned (.bool b) ∧ Below w.heap.size w w' := by
  subst hb
  go_enter Try.func37, Try.ntmps37
  go_wp2
  all_goals
    go_ret
    exact ⟨ret_bool (by simp [okC, *] <;> omega), (by repeat (first | with_reducible (first | exact blA | exact blB | refine blC _ ?_ | refine blD ?_ ?_ _ | refine blE ?_ | refine blF _ ?_ | refine blG ?_ _ | refine blH ?_ | refine blI ?_ ?_ _) | (simp only [World.size_alloc]; omega) | (simp <;> omega)))⟩
/-- a region moved -/
def shR (rows : List Reg.Row) (dx dy : Int) : List Reg.Row := rows.map fun w => (w.1 + dy, w.2.map (sh dx))
/-- a region within M cells of 0 -/
def Within (rows : List Reg.Row) (M : Int) : Prop := ∀ w ∈ rows, (-M ≤ w.1 ∧ w.1 ≤ M) ∧ ∀ r ∈ w.2, -M ≤ r.1 ∧ r.2 ≤ M
theorem bxLo_within {rows : List Reg.Row} {M : Int} (h : VReg rows) (hw : Within rows M) (hM : 0 ≤ M ∧ M ≤ 4096) : ∀ k, k ≤ rows.length → -M ≤ bxLo rows k ∧ (0 < k → bxLo rows k ≤ M)
  | 0, _ => by
    have : bxLo rows 0 = 4096 := rfl
    omega
  | k + 1, hk => by
    have ih := bxLo_within h hw hM k (by omega)
    obtain ⟨w, hr⟩ : ∃ w, rows[k]? = some w := ⟨_, List.getElem?_eq_getElem (by omega)⟩
    have hm := List.mem_of_getElem? hr
    have hf := fine_iff.1 (h.1 w hm).2
    obtain ⟨e, he⟩ : ∃ e, w.2[0]? = some e := by
      rcases hw2 : w.2 with _ | ⟨e, l⟩
      · exact absurd hw2 hf.2.2
      · exact ⟨e, rfl⟩
    have h2 := (hw w hm).2 e (List.mem_of_getElem? he)
    have h3 := hf.1.1 e (List.mem_of_getElem? he)
    rw [bxLo_succ hr he]
    omega
theorem bxHi_within {rows : List Reg.Row} {M : Int} (h : VReg rows) (hw : Within rows M) (hM : 0 ≤ M ∧ M ≤ 4096) : ∀ k, k ≤ rows.length → bxHi rows k ≤ M ∧ (0 < k → -M ≤ bxHi rows k)
  | 0, _ => by
    have : bxHi rows 0 = -4096 := rfl
    omega
  | k + 1, hk => by
    have ih := bxHi_within h hw hM k (by omega)
    obtain ⟨w, hr⟩ : ∃ w, rows[k]? = some w := ⟨_, List.getElem?_eq_getElem (by omega)⟩
    have hm := List.mem_of_getElem? hr
    have hf := fine_iff.1 (h.1 w hm).2
    have hl : 0 < w.2.length := List.length_pos_iff.2 hf.2.2
    obtain ⟨e, he⟩ : ∃ e, w.2[w.2.length - 1]? = some e := ⟨_, List.getElem?_eq_getElem (by omega)⟩
    have h2 := (hw w hm).2 e (List.mem_of_getElem? he)
    have h3 := hf.1.1 e (List.mem_of_getElem? he)
    rw [bxHi_succ hr he]
    omega
theorem box_within {rows : List Reg.Row} {M : Int} (h : rvalid rows = true) (hn : rows ≠ []) (hw : Within rows M) (hM : 0 ≤ M ∧ M ≤ 4096) : (-M ≤ (boxR rows).1.1 ∧ (boxR rows).1.1 ≤ M) ∧ (-M ≤ (boxR rows).1.2 ∧ (boxR rows).1.2 ≤ M) ∧ (-M ≤ (boxR rows).2.1 ∧ (boxR rows).2.1 ≤ M) ∧ -M ≤ (boxR rows).2.2 ∧ (boxR rows).2.2 ≤ M := by
  have hv := rvalid_iff.1 h
  have hp : 0 < rows.length := List.length_pos_iff.2 hn
  have q0 : rows[0]? = some rows[0] := List.getElem?_eq_getElem (by omega)
  have q1 : rows[rows.length - 1]? = some rows[rows.length - 1] := List.getElem?_eq_getElem (by omega)
  have e : boxR rows = ((bxLo rows rows.length, rows[0].1), (bxHi rows rows.length, rows[rows.length - 1].1)) := by unfold boxR; rw [if_pos ⟨h, hn⟩, q0, q1]; rfl
  have a1 := bxLo_within hv hw hM rows.length (Nat.le_refl _)
  have a2 := bxHi_within hv hw hM rows.length (Nat.le_refl _)
  have a3 := (hw _ (List.mem_of_getElem? q0)).1
  have a4 := (hw _ (List.mem_of_getElem? q1)).1
  rw [e]
  simp only
  omega
theorem shR_succ {rows : List Reg.Row} {k : Nat} {w : Reg.Row} {dx dy : Int} (h : rows[k]? = some w) : shR (rows.take (k + 1)) dx dy = shR (rows.take k) dx dy ++ [(w.1 + dy, w.2.map (sh dx))] := by unfold shR; rw [List.take_add_one, h, List.map_append]; rfl
theorem shiftL_row {l : List Run} {d M : Int} (hf : fine l = true) (hw : ∀ r ∈ l, -M ≤ r.1 ∧ r.2 ≤ M) (hd : -20 ≤ d ∧ d ≤ 20) (hM : M ≤ 4096) : shiftL l d = l.map (sh d) := by
  have hs := fine_iff.1 hf
  have hv := sepIn_valid (fine_sepIn.1 hf).1
  have ho : shiftOk l d = true := by
    unfold shiftOk
    rw [List.all_eq_true]
    intro r hr
    have h1 := hw r hr
    have h2 := hs.1.1 r hr
    unfold fits sh
    rw [decide_eq_true_eq]
    simp only; omega
  unfold shiftL
  rw [hv, ho]; rfl
theorem shiftE_row {l : List Run} {d M : Int} (hf : fine l = true) (hw : ∀ r ∈ l, -M ≤ r.1 ∧ r.2 ≤ M) (hd : -20 ≤ d ∧ d ≤ 20) (hM : M ≤ 4096) : shiftE l d = 0 := by
  have hs := fine_iff.1 hf
  have hv := sepIn_valid (fine_sepIn.1 hf).1
  have ho : shiftOk l d = true := by
    unfold shiftOk
    rw [List.all_eq_true]
    intro r hr
    have h1 := hw r hr
    have h2 := hs.1.1 r hr
    unfold fits sh
    rw [decide_eq_true_eq]
    simp only; omega
  unfold shiftE
  rw [hv, ho]; rfl
theorem shift_is {L : List Run} {E : Int} (v : Value) (l : List Run) (d : Int) (w : World) (h : Rd 2 encRun w v l) (hlen : l.length ≤ 68719476736) (hL : shiftL l d = L) (hE : shiftE l d = E) :
    Calls Try.prog 38 #[v, .int .i64 d] w fun e w' => (∃ u, e = .returned (.tuple #[u, .int .i64 E]) ∧ w'.ownsRow w.heap.size 46 2 u L.length (L.flatMap encRun)) ∧ Below w.heap.size w w' := by subst hL hE; exact shift_own v l d w h hlen
set_option maxHeartbeats 16000000 in
theorem shiftReg_any (v : Value) (rows : List Reg.Row) (dx dy M : Int) (w : World) (h : RdReg w v rows) (hv : rvalid rows = true) (hw : Within rows M) (hM : 0 ≤ M ∧ M ≤ 4000) (hdx : -20 ≤ dx ∧ dx ≤ 20) (hdy : -20 ≤ dy ∧ dy ≤ 20) :
    Calls Try.prog 19 #[v, .int .i64 dx, .int .i64 dy] w fun e w' => (∃ A n c, e = .returned (.tuple #[.agg #[.slice A n c], .int .i64 0]) ∧ RdReg w' (.agg #[.slice A n c]) (shR rows dx dy)) ∧ Below w.heap.size w w' := by
  have H := Lib.hid h
  have HV := Lib.hid hv
  have Hbd := Lib.hid (rvalid_bd hv)
  obtain ⟨A, capA, rfl⟩ := h.slice_
  clear h
  have hn1 : decide (-8192 ≤ dx ∧ dx ≤ 8192) = true := by rw [decide_eq_true_eq]; omega
  have hn2 : decide (-8192 ≤ dy ∧ dy ≤ 8192) = true := by rw [decide_eq_true_eq]; omega
  by_cases hn : rows = []
  · subst hn
    have H0 := Lib.hid (show RdReg w (.agg #[.slice A 0 capA]) [] from H.out)
    go_enter Try.func19, Try.ntmps19
    go_wp2_with (first
      | (go_at_call 35; (with_reducible refine (Kin.callK (W := (w.alloc (.cells #[.slice A 0 capA] 32)).alloc (.cells #[.slice none 0 0] 32)) (by repeat (first | with_reducible (first | exact blA | exact blB | refine blC _ ?_ | refine blD ?_ ?_ _ | refine blE ?_ | refine blF _ ?_ | refine blG ?_ _ | refine blH ?_ | refine blI ?_ ?_ _) | (simp only [World.size_alloc]; omega) | (simp <;> omega))) (boxP_is (p := ((0, 0), (0, 0))) _ [] _ (H0.out.below (by repeat (first | with_reducible (first | exact blA | exact blB | refine blC _ ?_ | refine blD ?_ ?_ _ | refine blE ?_ | refine blF _ ?_ | refine blG ?_ _ | refine blH ?_ | refine blI ?_ ?_ _) | (simp only [World.size_alloc]; omega) | (simp <;> omega)))) Hbd.out (by simp [boxR]) (b := false) (by simp [boxOk]))).mono ?_); rintro e w' ⟨z, rfl, hz, rfl⟩; (have hA := Lib.hid z.boxes2.1; have a0 : (Kin.wd z).cell? ⟨w.heap.size, 0, none⟩ = some (.slice A 0 capA) := hA.out.cell 0; have al := hA.out.lt))
      | (go_at_call 20; (with_reducible refine (Kin.callK (W := (w.alloc (.cells #[.slice A 0 capA] 32)).alloc (.cells #[.slice none 0 0] 32)) (by repeat (first | with_reducible (first | exact blA | exact blB | refine blC _ ?_ | refine blD ?_ ?_ _ | refine blE ?_ | refine blF _ ?_ | refine blG ?_ _ | refine blH ?_ | refine blI ?_ ?_ _) | (simp only [World.size_alloc]; omega) | (simp <;> omega))) (rvalid_is _ [] _ (H0.out.below (by repeat (first | with_reducible (first | exact blA | exact blB | refine blC _ ?_ | refine blD ?_ ?_ _ | refine blE ?_ | refine blF _ ?_ | refine blG ?_ _ | refine blH ?_ | refine blI ?_ ?_ _) | (simp only [World.size_alloc]; omega) | (simp <;> omega)))) Hbd.out HV.out)).mono ?_); rintro e w' ⟨z2, rfl, hz2, rfl⟩; (have z2B := Lib.hid z2.boxes2.2)))
    ((try simp only [Exit.inBlock, Exit.then]); refine bodyPost_ret (results_cell_t rfl _ _ (0, 0) rfl (z2B.out.set_ 0 _) Try.underlying32 rfl (by kernel_rfl)) rfl ?_)
    exact ⟨⟨_, _, _, rfl, RdReg.nil⟩, (by repeat (first | with_reducible (first | exact blA | exact blB | refine blC _ ?_ | refine blD ?_ ?_ _ | refine blE ?_ | refine blF _ ?_ | refine blG ?_ _ | refine blH ?_ | refine blI ?_ ?_ _) | (simp only [World.size_alloc]; omega) | (simp <;> omega)))⟩
  · have hb := box_within hv hn hw ⟨hM.1, by omega⟩
    have hok : boxOk rows = true := by cases rows <;> simp_all [boxOk]
    have HIN := Lib.hid (rvalid_iff.1 hv)
    have HWI := Lib.hid hw
    have hrl := (vreg_len (rvalid_iff.1 hv)).1
    obtain ⟨⟨⟨lx, ly⟩, hx, hy⟩, hp⟩ : ∃ p, boxR rows = p := ⟨_, rfl⟩
    rw [hp] at hb
    simp only at hb
    have HP := Lib.hid hp
    clear hp hn hv hw
    have o1 : okC (lx + dx) = true := by unfold okC; rw [decide_eq_true_eq]; omega
    have o2 : okC (hx + dx) = true := by unfold okC; rw [decide_eq_true_eq]; omega
    have o3 : okC (ly + dy) = true := by unfold okC; rw [decide_eq_true_eq]; omega
    have o4 : okC (hy + dy) = true := by unfold okC; rw [decide_eq_true_eq]; omega
    have w1 : IntKind.i64.wrap (lx + dx) = lx + dx := IntWalk.i64_in _ (by omega)
    have w2 : IntKind.i64.wrap (hx + dx) = hx + dx := IntWalk.i64_in _ (by omega)
    have w3 : IntKind.i64.wrap (ly + dy) = ly + dy := IntWalk.i64_in _ (by omega)
    have w4 : IntKind.i64.wrap (hy + dy) = hy + dy := IntWalk.i64_in _ (by omega)
    go_enter Try.func19, Try.ntmps19
    go_wp2_with (go_at_call 35; (with_reducible refine (Kin.callK (W := (w.alloc (.cells #[.slice A rows.length capA] 32)).alloc (.cells #[.slice none 0 0] 32)) (by repeat (first | with_reducible (first | exact blA | exact blB | refine blC _ ?_ | refine blD ?_ ?_ _ | refine blE ?_ | refine blF _ ?_ | refine blG ?_ _ | refine blH ?_ | refine blI ?_ ?_ _) | (simp only [World.size_alloc]; omega) | (simp <;> omega))) (boxP_is _ rows _ (H.out.below (by repeat (first | with_reducible (first | exact blA | exact blB | refine blC _ ?_ | refine blD ?_ ?_ _ | refine blE ?_ | refine blF _ ?_ | refine blG ?_ _ | refine blH ?_ | refine blI ?_ ?_ _) | (simp only [World.size_alloc]; omega) | (simp <;> omega)))) Hbd.out HP.out hok)).mono ?_); rintro e w' ⟨z, rfl, hz, rfl⟩; (have PA := Lib.hid z.boxes2.1; have PB := Lib.hid z.boxes2.2; have az0 : (Kin.wd z).cell? ⟨w.heap.size, 0, none⟩ = some (.slice A rows.length capA) := PA.out.cell 0; have azl := PA.out.lt))
    clear az0 azl
    obtain ⟨yA, hX⟩ : ∃ yA : Kin z.1, yA.1 = (z.1.alloc (.cells #[.int .i64 lx, .int .i64 ly] 23)).alloc (.cells #[.int .i64 hx, .int .i64 hy] 23) := ⟨⟨(z.1.alloc (.cells #[.int .i64 lx, .int .i64 ly] 23)).alloc (.cells #[.int .i64 hx, .int .i64 hy] 23), (by repeat (first | with_reducible (first | exact blA | exact blB | refine blC _ ?_ | refine blD ?_ ?_ _ | refine blE ?_ | refine blF _ ?_ | refine blG ?_ _ | refine blH ?_ | refine blI ?_ ?_ _) | (simp only [World.size_alloc]; omega) | (simp <;> omega)))⟩, rfl⟩
    rw [← hX]
    have PL := Lib.hid (show Blk yA.1 z.1.heap.size 23 #[.int .i64 lx, .int .i64 ly] from hX ▸ (Blk.new _ _ _).below (Below.alloc (Below.refl _ _) (Nat.le_refl _) _))
    have PH := Lib.hid (show Blk yA.1 (z.1.heap.size + 1) 23 #[.int .i64 hx, .int .i64 hy] from hX ▸ blk_alloc2 _ _ _ _)
    clear hX
    have PA2 := Lib.hid (PA.out.below yA.2)
    have PB2 := Lib.hid (PB.out.below yA.2)
    have HYA := Lib.hid (H.out.below (show Below w.heap.size w yA.1 from (by repeat (first | with_reducible (first | exact blA | exact blB | refine blC _ ?_ | refine blD ?_ ?_ _ | refine blE ?_ | refine blF _ ?_ | refine blG ?_ _ | refine blH ?_ | refine blI ?_ ?_ _) | (simp only [World.size_alloc]; omega) | (simp <;> omega)))))
    have a0 : yA.1.cell? ⟨w.heap.size, 0, none⟩ = some (.slice A rows.length capA) := PA2.out.cell 0
    have al := PA2.out.lt
    have l0 : yA.1.cell? ⟨z.1.heap.size, 0, none⟩ = some (.int .i64 lx) := PL.out.cell 0
    have l1 : yA.1.cell? ⟨z.1.heap.size, 1, none⟩ = some (.int .i64 ly) := PL.out.cell 1
    have ll := PL.out.lt
    have h0 : yA.1.cell? ⟨z.1.heap.size + 1, 0, none⟩ = some (.int .i64 hx) := PH.out.cell 0
    have h1 : yA.1.cell? ⟨z.1.heap.size + 1, 1, none⟩ = some (.int .i64 hy) := PH.out.cell 1
    have hl := PH.out.lt
    go_wp2_with (first
      | (go_at_call 20; (with_reducible refine (Kin.callK (W := (Kin.wd yA)) (by repeat (first | with_reducible (first | exact blA | exact blB | refine blC _ ?_ | refine blD ?_ ?_ _ | refine blE ?_ | refine blF _ ?_ | refine blG ?_ _ | refine blH ?_ | refine blI ?_ ?_ _) | (simp only [World.size_alloc]; omega) | (simp <;> omega))) (rvalid_is _ rows _ (HYA.out.below (by repeat (first | with_reducible (first | exact blA | exact blB | refine blC _ ?_ | refine blD ?_ ?_ _ | refine blE ?_ | refine blF _ ?_ | refine blG ?_ _ | refine blH ?_ | refine blI ?_ ?_ _) | (simp only [World.size_alloc]; omega) | (simp <;> omega)))) Hbd.out HV.out)).mono ?_); rintro e w' ⟨z2, rfl, hz2, rfl⟩; skip)
      | (go_at_call 36; (with_reducible refine (Kin.callK (W := (Kin.wd yA)) (by repeat (first | with_reducible (first | exact blA | exact blB | refine blC _ ?_ | refine blD ?_ ?_ _ | refine blE ?_ | refine blF _ ?_ | refine blG ?_ _ | refine blH ?_ | refine blI ?_ ?_ _) | (simp only [World.size_alloc]; omega) | (simp <;> omega))) (near_is _ _ hn1)).mono ?_); rintro e w' ⟨z3, rfl, hz3, rfl⟩; skip)
      | (go_at_call 36; (with_reducible refine (Kin.callK (W := (Kin.wd yA)) (by repeat (first | with_reducible (first | exact blA | exact blB | refine blC _ ?_ | refine blD ?_ ?_ _ | refine blE ?_ | refine blF _ ?_ | refine blG ?_ _ | refine blH ?_ | refine blI ?_ ?_ _) | (simp only [World.size_alloc]; omega) | (simp <;> omega))) (near_is _ _ hn2)).mono ?_); rintro e w' ⟨z4, rfl, hz4, rfl⟩; skip)
      | (go_at_call 37; (with_reducible refine (Kin.callK (W := (Kin.wd yA)) (by repeat (first | with_reducible (first | exact blA | exact blB | refine blC _ ?_ | refine blD ?_ ?_ _ | refine blE ?_ | refine blF _ ?_ | refine blG ?_ _ | refine blH ?_ | refine blI ?_ ?_ _) | (simp only [World.size_alloc]; omega) | (simp <;> omega))) (okG_is _ _ o1)).mono ?_); rintro e w' ⟨z5, rfl, hz5, rfl⟩; skip)
      | (go_at_call 37; (with_reducible refine (Kin.callK (W := (Kin.wd yA)) (by repeat (first | with_reducible (first | exact blA | exact blB | refine blC _ ?_ | refine blD ?_ ?_ _ | refine blE ?_ | refine blF _ ?_ | refine blG ?_ _ | refine blH ?_ | refine blI ?_ ?_ _) | (simp only [World.size_alloc]; omega) | (simp <;> omega))) (okG_is _ _ o2)).mono ?_); rintro e w' ⟨z6, rfl, hz6, rfl⟩; skip)
      | (go_at_call 37; (with_reducible refine (Kin.callK (W := (Kin.wd yA)) (by repeat (first | with_reducible (first | exact blA | exact blB | refine blC _ ?_ | refine blD ?_ ?_ _ | refine blE ?_ | refine blF _ ?_ | refine blG ?_ _ | refine blH ?_ | refine blI ?_ ?_ _) | (simp only [World.size_alloc]; omega) | (simp <;> omega))) (okG_is _ _ o3)).mono ?_); rintro e w' ⟨z7, rfl, hz7, rfl⟩; skip)
      | (go_at_call 37; (with_reducible refine (Kin.callK (W := (Kin.wd yA)) (by repeat (first | with_reducible (first | exact blA | exact blB | refine blC _ ?_ | refine blD ?_ ?_ _ | refine blE ?_ | refine blF _ ?_ | refine blG ?_ _ | refine blH ?_ | refine blI ?_ ?_ _) | (simp only [World.size_alloc]; omega) | (simp <;> omega))) (okG_is _ _ o4)).mono ?_); rintro e w' ⟨z8, rfl, hz8, rfl⟩; skip))
    have HZr := Lib.hid (rows_op (by have := (HYA.out.below z8.2); obtain ⟨s, e, h⟩ := this; cases e; exact h : RdRows z8.1 (.slice A rows.length capA) rows))
    have HBR := Lib.hid (PB2.out.below z8.2)
    have hwz : Below w.heap.size w z8.1 := (by repeat (first | with_reducible (first | exact blA | exact blB | refine blC _ ?_ | refine blD ?_ ?_ _ | refine blE ?_ | refine blF _ ?_ | refine blG ?_ _ | refine blH ?_ | refine blI ?_ ?_ _) | (simp only [World.size_alloc]; omega) | (simp <;> omega)))
    have hzs : yA.1.heap.size ≤ z8.1.heap.size := z8.2.size
    go_loopw [76] (fun i wr => ∃ k : Nat, k ≤ rows.length ∧ i = .int .i64 k ∧ ∃ S, Hid (OwnRows (z8.1.heap.size + 1) wr S (shR (rows.take k) dx dy)) ∧ Hid (Blk wr z8.1.heap.size 32 #[S]) ∧ Hid (Below z8.1.heap.size z8.1 wr)) (fun i _ => rows.length - (intOf i).toNat)
    case atStart => exact ⟨0, Nat.zero_le _, rfl, _, Lib.hid OwnN.nil, Lib.hid (Blk.new _ _ _), Lib.hid (by repeat (first | with_reducible (first | exact blA | exact blB | refine blC _ ?_ | refine blD ?_ ?_ _ | refine blE ?_ | refine blF _ ?_ | refine blG ?_ _ | refine blH ?_ | refine blI ?_ ?_ _) | (simp only [World.size_alloc]; omega) | (simp <;> omega)))⟩
    case round =>
      obtain ⟨k, hk, rfl, S, HO, HP6, hyB⟩ := hrel
      obtain ⟨y6, rfl⟩ : ∃ y6 : Kin z8.1, y6.1 = wr := ⟨⟨wr, hyB.out⟩, rfl⟩
      clear hyB
      by_cases hlt : k < rows.length
      · obtain ⟨hs, hown, hnest, hap⟩ := HO.out
        obtain ⟨AS, nS, cS, rfl⟩ := own_slice hown
        have HOW := Lib.hid hown
        have HNE := Lib.hid hnest
        have HAP := Lib.hid hap
        have hhl := hnest.1
        have hsl : (shR (rows.take k) dx dy).length ≤ k := by unfold shR; rw [List.length_map]; exact List.length_take_le _ _
        have p0 : y6.1.cell? ⟨z8.1.heap.size, 0, none⟩ = some (.slice AS nS cS) := HP6.out.cell 0
        have pl := HP6.out.lt
        clear hown hnest hap
        obtain ⟨r, hr⟩ : ∃ el_, rows[k]? = some el_ := ⟨_, List.getElem?_eq_getElem hlt⟩
        obtain ⟨bA, offA, rfl, hbA, hcA⟩ := HZr.out k _ hr
        obtain ⟨T, capT, r_0, r_1, hcapT, hrT⟩ := hcA k r hr
        have hrm := HIN.out.1 r (List.mem_of_getElem? hr)
        have hrw := HWI.out r (List.mem_of_getElem? hr)
        have hrl2 := sepIn_len (fine_sepIn.1 hrm.2).1
        have HL := Lib.hid (shiftL_row hrm.2 hrw.2 hdx (by omega : M ≤ 4096))
        have HE := Lib.hid (shiftE_row hrm.2 hrw.2 hdx (by omega : M ≤ 4096))
        have HSS := Lib.hid (shR_succ (dx := dx) (dy := dy) hr)
        have hry := hrw.1
        have HRT := Lib.hid hrT
        have hwy : IntKind.i64.wrap (r.1 + dy) = r.1 + dy := IntWalk.i64_in _ (by omega)
        have hml : (r.2.map (sh dx)).length ≤ 8192 := by rw [List.length_map]; exact hrl2
        obtain ⟨G, hG⟩ : ∃ G, r.2.map (sh dx) = G := ⟨_, rfl⟩
        rw [hG] at HL HSS hml
        clear hr hcA hrm hrw hrT hG
        go_wp2_with (first
          | (go_at_call 38; (with_reducible refine (Kin.callK (W := ((Kin.wd y6).alloc (.cells #[.int .i64 r.1, .slice T r.2.length capT] 43))) (by repeat (first | with_reducible (first | exact blA | exact blB | refine blC _ ?_ | refine blD ?_ ?_ _ | refine blE ?_ | refine blF _ ?_ | refine blG ?_ _ | refine blH ?_ | refine blI ?_ ?_ _) | (simp only [World.size_alloc]; omega) | (simp <;> omega))) (shift_is _ r.2 dx _ (HRT.out.below (by repeat (first | with_reducible (first | exact blA | exact blB | refine blC _ ?_ | refine blD ?_ ?_ _ | refine blE ?_ | refine blF _ ?_ | refine blG ?_ _ | refine blH ?_ | refine blI ?_ ?_ _) | (simp only [World.size_alloc]; omega) | (simp <;> omega)))) (by omega) HL.out HE.out)).mono ?_); rintro e w' ⟨zu, ⟨u, rfl, hl⟩, hzu, rfl⟩; (have hrd := Rd.own encRun_len hl; (obtain ⟨L, capL, rfl, hcapL, _⟩ := hrd.open_); have PW := Lib.hid ((Blk.new (Kin.wd y6) 43 #[.int .i64 r.1, .slice T r.2.length capT]).below zu.2); have e0 : (Kin.wd zu).cell? ⟨(Kin.wd y6).heap.size, 0, none⟩ = some (.int .i64 r.1) := PW.out.cell 0; have el := PW.out.lt; have HBZ := Lib.hid (show Below (Kin.wd y6).heap.size (Kin.wd y6) (Kin.wd zu) from (by repeat (first | with_reducible (first | exact blA | exact blB | refine blC _ ?_ | refine blD ?_ ?_ _ | refine blE ?_ | refine blF _ ?_ | refine blG ?_ _ | refine blH ?_ | refine blI ?_ ?_ _) | (simp only [World.size_alloc]; omega) | (simp <;> omega)))); have HPZ := Lib.hid (HP6.out.below HBZ.out); have p0' : (Kin.wd zu).cell? ⟨(Kin.wd z8).heap.size, 0, none⟩ = some (.slice AS nS cS) := HPZ.out.cell 0; have pl' := HPZ.out.lt; have HFR := Lib.hid (own_fresh hl (v2 := .slice AS nS cS) (fun q e => Nat.lt_of_lt_of_le (HOW.out.lt q e).2 (le_alloc (Nat.le_refl _) _))); have HLL := Lib.hid hrd; clear hl hrd))
          | (at_builtin; refine wpList_app _ rfl _ _ 30 rfl encRow_len (by decide) oneRow (z8.1.heap.size + 1) 43 (.agg #[.int .i64 0, .slice none 0 0]) 32 infoRow rfl Try.underlying30 _ _ _ _ rfl ((own_below HOW.out HBZ.out).alloc _) _ _ _ rfl (rd_one _ encRow_len _ (hd (r.1 + dy) L G.length capL) _ rfl) ?c1 (by decide) ?c2 ?_; (case c1 => (first | (simp only [List.length_append, List.length_cons, List.length_nil]; omega) | omega | (simp; omega))); (case c2 => exact (by repeat (first | with_reducible exact Nat.le_refl _ | assumption | with_reducible refine le_alloc ?_ _ | with_reducible refine le_drew ?_ | with_reducible refine Kin.le _ ?_ | assumption | omega | (simp only [World.size_alloc]; omega)))); intro v' w1 hown' hg hbel hat'; ((obtain ⟨AV, nV, cV, rfl⟩ := own_slice hown'); have hPn : Blk (zu.1.alloc (.cells #[.int .i64 (r.1 + dy), .slice L G.length capL] 43)) z8.1.heap.size 32 #[.slice AS nS cS] := HPZ.out.below (Below.alloc (Below.refl _ _) (Nat.le_refl _) _); have HP1 := Lib.hid (hPn.grown hg (Ne.symm (own_ne ((own_below HOW.out HBZ.out).alloc _) hPn (by decide)))); have p1 : w1.cell? ⟨z8.1.heap.size, 0, none⟩ = some (.slice AS nS cS) := HP1.out.cell 0; have pf1 : w1.frozen? ⟨z8.1.heap.size, 0, none⟩ = false := HP1.out.frozen 0; have pl1 := HP1.out.lt; have HPU := Lib.hid (OwnRows.push ((own_below HOW.out HBZ.out).alloc _) (HNE.out.below (by repeat (first | with_reducible (first | exact blA | exact blB | refine blC _ ?_ | refine blD ?_ ?_ _ | refine blE ?_ | refine blF _ ?_ | refine blG ?_ _ | refine blH ?_ | refine blI ?_ ?_ _) | (simp only [World.size_alloc]; omega) | (simp <;> omega)))) HAP.out hown' hg hat' (HLL.out.below (by repeat (first | with_reducible (first | exact blA | exact blB | refine blC _ ?_ | refine blD ?_ ?_ _ | refine blE ?_ | refine blF _ ?_ | refine blG ?_ _ | refine blH ?_ | refine blI ?_ ?_ _) | (simp only [World.size_alloc]; omega) | (simp <;> omega)))) (HFR.out.imp (fun h => List.eq_nil_of_length_eq_zero (by simpa using h)) id) hPn); have HBE := Lib.hid hbel; clear hown' hg hbel hat')))
        have hb56 : Below z8.1.heap.size z8.1 (zu.1.alloc (.cells #[.int .i64 (r.1 + dy), .slice L G.length capL] 43)) := Below.alloc (y6.2.trans (HBZ.out.mono y6.2.size)) (by repeat (first | with_reducible exact Nat.le_refl _ | assumption | with_reducible refine le_alloc ?_ _ | with_reducible refine le_drew ?_ | with_reducible refine Kin.le _ ?_ | assumption | omega | (simp only [World.size_alloc]; omega))) _
        have hb5 := hb56.trans (HBE.out.mono (Nat.le_succ _))
        go_roundw
        case rel => exact ⟨k + 1, by omega, by go_num, _, Lib.hid (by rw [HSS.out]; exact HPU.out.1), Lib.hid HPU.out.2, Lib.hid (Below.setCell hb5 (Nat.le_refl _) _)⟩
        case measure => simp [intOf]; omega
      · have ek : rows.take k = rows := List.take_of_length_le (by omega)
        have HEK := Lib.hid (show shR (rows.take k) dx dy = shR rows dx dy by rw [ek])
        obtain ⟨hs, hown, _⟩ := HO.out
        obtain ⟨AS, nS, cS, rfl⟩ := own_slice hown
        have p0 : y6.1.cell? ⟨z8.1.heap.size, 0, none⟩ = some (.slice AS nS cS) := HP6.out.cell 0
        have pl := HP6.out.lt
        have B36 := Lib.hid (HBR.out.below y6.2)
        have q0 : y6.1.cell? ⟨w.heap.size + 1, 0, none⟩ = some (.slice none 0 0) := B36.out.cell 0
        have qf : y6.1.frozen? ⟨w.heap.size + 1, 0, none⟩ = false := B36.out.frozen 0
        have ql := B36.out.lt
        clear hown ek
        go_wp2
        ((try simp only [Exit.inBlock, Exit.then]); refine bodyPost_ret (results_cell_t rfl _ _ (0, 0) rfl (B36.out.set_ 0 _) Try.underlying32 rfl (by kernel_rfl)) rfl ?_)
        refine ⟨⟨_, _, _, rfl, ?_⟩, (by repeat (first | with_reducible (first | exact blA | exact blB | refine blC _ ?_ | refine blD ?_ ?_ _ | refine blE ?_ | refine blF _ ?_ | refine blG ?_ _ | refine blH ?_ | refine blI ?_ ?_ _) | (simp only [World.size_alloc]; omega) | (simp <;> omega)))⟩
        rw [← HEK.out]
        exact (HO.out.set_ (i := 0) (u := .slice AS nS cS) B36.out (by decide)).reg
end Go.Proofs.Ytbdmibbpojmkiaa

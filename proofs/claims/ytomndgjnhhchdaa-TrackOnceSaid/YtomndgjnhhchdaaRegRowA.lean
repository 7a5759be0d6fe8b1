/- The row of a region: binary search, and the chapter's own. (joined: RegRow RegRow2) -/
import Derived.Test.YtomndgjnhhchdaaRegWalks2
import Derived.Test.YtomndgjnhhchdaaPlain
/- The row of a region: binary search, and the chapter's own. -/
namespace Go.Proofs.Ytomndgjnhhchdaa
set_option linter.unusedSimpArgs false
set_option linter.unusedVariables false
open Go.RowKit Runs Reg
attribute [local go_sem] Kin.cell Kin.frozen Kin.lt0 Kin.lt1 Kin.lt2 Kin.lt3 run_mkf
def cmpI (x y : Int) : Int := if x < y then -1 else if y < x then 1 else 0
set_option maxHeartbeats 400000 in
theorem isNaN_any (x : Int) (w : World) : Calls Try.prog 62 #[.int .i64 x] w fun e w' => e = .returned (.bool false) ∧ Below w.heap.size w w' := by
  go_enter Try.func62, Try.ntmps62
  go_wp2
  go_ret
  exact ⟨ret_bool (by simp), (by repeat (first | with_reducible (first | exact blA | exact blB | refine blC _ ?_ | refine blD ?_ ?_ _ | refine blE ?_ | refine blF _ ?_ | refine blG ?_ _ | refine blH ?_ | refine blI ?_ ?_ _) | (simp only [World.size_alloc]; omega) | (simp <;> omega)))⟩
set_option maxHeartbeats 400000 in
theorem cmpI_any (x y : Int) (w : World) : Calls Try.prog 54 #[.int .i64 x, .int .i64 y] w fun e w' => e = .returned (.int .i64 (cmpI x y)) ∧ Below w.heap.size w w' := by
  go_enter Try.func54, Try.ntmps54
  go_wp2_with (go_at_call 62; (with_reducible refine (Kin.callK (W := w) (by repeat (first | with_reducible (first | exact blA | exact blB | refine blC _ ?_ | refine blD ?_ ?_ _ | refine blE ?_ | refine blF _ ?_ | refine blG ?_ _ | refine blH ?_ | refine blI ?_ ?_ _) | (simp only [World.size_alloc]; omega) | (simp <;> omega))) (isNaN_any _ _)).mono ?_); rintro e w' ⟨z, rfl, hz, rfl⟩)
  all_goals
    go_ret
    exact ⟨ret_int (by unfold cmpI; repeat' split <;> omega), (by repeat (first | with_reducible (first | exact blA | exact blB | refine blC _ ?_ | refine blD ?_ ?_ _ | refine blE ?_ | refine blF _ ?_ | refine blG ?_ _ | refine blH ?_ | refine blI ?_ ?_ _) | (simp only [World.size_alloc]; omega) | (simp <;> omega)))⟩
theorem cmpI_lt {x y : Int} : cmpI x y < 0 ↔ x < y := by unfold cmpI; repeat' split <;> omega
theorem cmpI_eq {x y : Int} : cmpI x y = 0 ↔ x = y := by unfold cmpI; repeat' split <;> omega
theorem sorted_lt {rows : List Reg.Row} (h : rows.Pairwise (fun v w => v.1 < w.1)) {i j : Nat} {r q : Reg.Row} (hr : rows[i]? = some r) (hq : rows[j]? = some q) (hij : i < j) : r.1 < q.1 := by
  obtain ⟨hi, rfl⟩ := List.getElem?_eq_some_iff.1 hr
  obtain ⟨hj, rfl⟩ := List.getElem?_eq_some_iff.1 hq
  exact List.pairwise_iff_getElem.1 h i j hi hj hij
/-- the slice that lies in memory at the row y of a region; nil if there is no such row -/
def RowIs (W : World) (v : Value) (rows : List Reg.Row) (y : Int) (u : Value) : Prop :=
  (∃ (k b off cap : Nat) (r : Reg.Row) (S : Option Addr) (c : Nat), rows[k]? = some r ∧ r.1 = y ∧ (∀ j q, j < k → rows[j]? = some q → q.1 ≠ y) ∧ v = .agg #[.slice (some ⟨b, off, none⟩) rows.length cap] ∧ b < W.heap.size ∧ u = .slice S r.2.length c ∧ W.cell? ⟨b, off + k * 2 + 1, none⟩ = some u) ∨ ((∀ r ∈ rows, r.1 ≠ y) ∧ u = .slice none 0 0)
theorem RowIs.below {W W' : World} {v : Value} {rows : List Reg.Row} {y : Int} {u : Value} (h : RowIs W v rows y u) (hb : Below W.heap.size W W') : RowIs W' v rows y u := by
  rcases h with ⟨k, b, off, cap, r, S, c, h1, h2, h3, h4, h5, h6, h7⟩ | h
  · exact .inl ⟨k, b, off, cap, r, S, c, h1, h2, h3, h4, Nat.lt_of_lt_of_le h5 hb.size, h6, (hb.cell (p := ⟨b, _, none⟩) h5).trans h7⟩
  · exact .inr h
theorem find_first {rows : List Reg.Row} {y : Int} : (∃ (k : Nat) (r : Reg.Row), rows[k]? = some r ∧ r.1 = y ∧ (∀ j q, j < k → rows[j]? = some q → q.1 ≠ y) ∧ rwAt rows y = r.2) ∨ ((∀ r ∈ rows, r.1 ≠ y) ∧ rwAt rows y = []) := by
  induction rows with
  | nil => right; exact ⟨by simp, rfl⟩
  | cons w rows ih =>
    rw [rwAt_cons]
    by_cases h : w.1 = y
    · left; exact ⟨0, w, rfl, h, fun j q hj => absurd hj (by omega), by simp [h]⟩
    · rcases ih with ⟨k, r, h1, h2, h3, h4⟩ | ⟨h1, h2⟩
      · left
        refine ⟨k + 1, r, by simpa using h1, h2, fun j q hj hq => ?_, by simp [h, h4]⟩
        match j, hj, hq with
        | 0, _, hq => simp at hq; rw [← hq]; exact h
        | j + 1, hj, hq => exact h3 j q (by omega) (by simpa using hq)
      · right; exact ⟨fun v hv => by rcases List.mem_cons.1 hv with rfl | hv; exact h; exact h1 v hv, by simp [h, h2]⟩
theorem rowIs_some {W : World} {v : Value} {rows : List Reg.Row} (h : RdReg W v rows) (y : Int) : ∃ u, RowIs W v rows y u ∧ Rd 2 encRun W u (rwAt rows y) := by
  obtain ⟨s, rfl, h⟩ := h
  obtain ⟨A, cap, rfl, hcap, hop⟩ := rows_open h
  rcases find_first (rows := rows) (y := y) with ⟨k, r, h1, h2, h3, h4⟩ | ⟨h1, h2⟩
  · obtain ⟨b, off, rfl, hb, hc⟩ := hop k r h1
    obtain ⟨S, c, _, hc1, hle, hr⟩ := hc k r h1
    exact ⟨_, .inl ⟨k, b, off, cap, r, S, c, h1, h2, h3, rfl, hb, rfl, hc1⟩, by rw [h4]; exact hr⟩
  · exact ⟨_, .inr ⟨h1, rfl⟩, by rw [h2]; exact Rd.nil⟩
theorem bs_found {rows : List Reg.Row} (hs : rows.Pairwise (fun v w => v.1 < w.1)) {i k : Nat} {f : Bool} {r : Reg.Row} {y : Int} (hr : rows[k]? = some r) (hy : r.1 = y) (hi : i ≤ rows.length) (h1 : ∀ q r, q < i → rows[q]? = some r → r.1 < y) (h2 : ∀ q r, i ≤ q → rows[q]? = some r → y ≤ r.1)
    (hf : f = true ↔ ∃ r, rows[i]? = some r ∧ r.1 = y) : i = k ∧ f = true := by
  have hk := (List.getElem?_eq_some_iff.1 hr).1
  have e : i = k := by
    rcases Nat.lt_trichotomy i k with h | h | h
    · have hi : i < rows.length := by omega
      have hq : rows[i]? = some rows[i] := List.getElem?_eq_getElem hi
      have a := sorted_lt hs hq hr h
      have b := h2 i _ (Nat.le_refl _) hq
      omega
    · exact h
    · have := h1 k r h hr; omega
  subst e
  exact ⟨rfl, hf.2 ⟨r, hr, hy⟩⟩
theorem bs_none {rows : List Reg.Row} {i : Nat} {f : Bool} {y : Int} (h : ∀ r ∈ rows, r.1 ≠ y) (hf : f = true ↔ ∃ r, rows[i]? = some r ∧ r.1 = y) : f = false := by
  rw [Bool.eq_false_iff]; intro hc
  obtain ⟨r, hr, hy⟩ := hf.1 hc
  exact h r (List.mem_of_getElem? hr) hy
set_option maxRecDepth 100000 in
set_option maxHeartbeats 4000000 in
theorem row18_any (v : Value) (rows : List Reg.Row) (y : Int) (u : Value) (w : World) (h : RdReg w v rows) (hlen : rows.length ≤ 9223372036854775807) (hu : RowIs w v rows y u) :
    Calls Try.prog 43 #[v, .int .i64 y] w fun e w' => e = .returned u ∧ Below w.heap.size w w' := by
  obtain ⟨s, rfl, h⟩ := h
  obtain ⟨A, capA, rfl, hcapA, hopA⟩ := rows_open h
  have HA := Lib.hid hopA
  have HLA := Lib.hid h
  clear hopA h
  rcases hu with ⟨k0, bA, offA, cap', r0, S0, c0, h1, h2, h3, h4, h5, rfl, h7⟩ | ⟨h1, rfl⟩
  · injection h4 with h4
    have h4 := congrArg (fun a => a[0]?) h4
    simp at h4
    obtain ⟨rfl, rfl⟩ := h4
    have Hr0 := Lib.hid h1
    have H3 := Lib.hid h3
    have hk0 := (List.getElem?_eq_some_iff.1 h1).1
    clear h1 h3
    go_enter Try.func43, Try.ntmps43
    go_wp2
    go_loopw [5] (fun i wr => ∃ k : Nat, k ≤ k0 ∧ i = .int .i64 k ∧ ∃ z : Kin (w.alloc (.cells #[.slice (some ⟨bA, offA, none⟩) rows.length capA] 37)), z.1 = wr) (fun i _ => rows.length - (intOf i).toNat)
    case atStart => exact ⟨0, Nat.zero_le _, rfl, ⟨_, Below.refl _ _⟩, rfl⟩
    case round =>
      obtain ⟨k, hk, rfl, z, rfl⟩ := hrel
      obtain ⟨r, hr⟩ : ∃ el_, (rows)[k]? = some el_ := ⟨_, List.getElem?_eq_getElem (by first | exact (by omega) | omega)⟩
      obtain ⟨bA, offA, ⟨⟩, hbA, hcA⟩ := HA.out (k) _ hr
      have hbA2 : bA < w.heap.size + 1 := by omega
      have HAc := Lib.hid hcA
      clear hcA
      obtain ⟨S, capS, r_0, r_1, hcapS, hrS⟩ := HAc.out (k) r hr
      have HLS := Lib.hid hrS
      have Hr := Lib.hid hr
      clear hr hrS
      by_cases hkk : k = k0
      · subst hkk
        have e : r = r0 := by have := Hr.out; rw [Hr0.out] at this; injection this with this; exact this.symm
        subst e
        rw [r_1] at h7
        injection h7 with h7
        injection h7 with e1 _ e3
        subst e1 e3
        go_wp2
        go_ret
        exact ⟨rfl, (by repeat (first | with_reducible (first | exact blA | exact blB | refine blC _ ?_ | refine blD ?_ ?_ _ | refine blE ?_ | refine blF _ ?_ | refine blG ?_ _ | refine blH ?_ | refine blI ?_ ?_ _) | (simp only [World.size_alloc]; omega) | (simp <;> omega)))⟩
      · have hne := H3.out k r (by omega) Hr.out
        go_wp2
        go_roundw
        case rel => exact ⟨k + 1, by omega, by go_num, z, rfl⟩
        case measure => simp [intOf]; omega
  · have H1 := Lib.hid h1
    clear h1
    go_enter Try.func43, Try.ntmps43
    go_wp2
    go_loopw [5] (fun i wr => ∃ k : Nat, k ≤ rows.length ∧ i = .int .i64 k ∧ ∃ z : Kin (w.alloc (.cells #[.slice A rows.length capA] 37)), z.1 = wr) (fun i _ => rows.length - (intOf i).toNat)
    case atStart => exact ⟨0, Nat.zero_le _, rfl, ⟨_, Below.refl _ _⟩, rfl⟩
    case round =>
      obtain ⟨k, hk, rfl, z, rfl⟩ := hrel
      by_cases hlt : k < rows.length
      · obtain ⟨r, hr⟩ : ∃ el_, (rows)[k]? = some el_ := ⟨_, List.getElem?_eq_getElem (by first | exact hlt | omega)⟩
        obtain ⟨bA, offA, ⟨⟩, hbA, hcA⟩ := HA.out (k) _ hr
        have hbA2 : bA < w.heap.size + 1 := by omega
        have HAc := Lib.hid hcA
        clear hcA
        obtain ⟨S, capS, r_0, r_1, hcapS, hrS⟩ := HAc.out (k) r hr
        have HLS := Lib.hid hrS
        have Hr := Lib.hid hr
        clear hr hrS
        have hne := H1.out r (List.mem_of_getElem? Hr.out)
        go_wp2
        go_roundw
        case rel => exact ⟨k + 1, by omega, by go_num, z, rfl⟩
        case measure => simp [intOf]; omega
      · go_wp2
        go_ret
        exact ⟨rfl, (by repeat (first | with_reducible (first | exact blA | exact blB | refine blC _ ?_ | refine blD ?_ ?_ _ | refine blE ?_ | refine blF _ ?_ | refine blG ?_ _ | refine blH ?_ | refine blI ?_ ?_ _) | (simp only [World.size_alloc]; omega) | (simp <;> omega)))⟩
end Go.Proofs.Ytomndgjnhhchdaa
/- Contains of regions. -/
namespace Go.Proofs.Ytomndgjnhhchdaa
set_option linter.unusedSimpArgs false
set_option linter.unusedVariables false
open Go.RowKit Runs Reg
attribute [local go_sem] Kin.cell Kin.frozen Kin.lt0 Kin.lt1 Kin.lt2 Kin.lt3 run_mkf
set_option maxRecDepth 100000 in
set_option maxHeartbeats 4000000 in
theorem contains18_any (v : Value) (rows : List Reg.Row) (x y : Int) (w : World) (h : RdReg w v rows) (hbd : RBd rows) :
    Calls Try.prog 23 #[v, .agg #[.int .i64 x, .int .i64 y]] w fun e w' => e = .returned (.bool (rvalid rows && memC rows x y)) ∧ Below w.heap.size w w' := by
  obtain ⟨u, hu, hr⟩ := rowIs_some h y
  have Hbd := Lib.hid hbd
  have hlen := hbd.1
  have H := Lib.hid h
  obtain ⟨s, rfl, h⟩ := h
  obtain ⟨A, cap, rfl, hcap, _⟩ := rows_open h
  clear h hbd
  have Hu := Lib.hid hu
  have HR := Lib.hid hr
  clear hu hr
  go_enter Try.func23, Try.ntmps23
  cases hv : rvalid rows
  · go_wp2
    ((refine wp_region_kinK (W := w) (by kernel_rfl) (by kernel_rfl) (by repeat (first | with_reducible (first | exact blA | exact blB | refine blC _ ?_ | refine blD ?_ ?_ _ | refine blE ?_ | refine blF _ ?_ | refine blG ?_ _ | refine blH ?_ | refine blI ?_ ?_ _) | (simp only [World.size_alloc]; omega) | (simp <;> omega))) ?_); (repeat' (first | go_big_quiet_step ((go_at_call 41; exact Kin.quiet _ (valid18_is _ rows _ (H.out.below (by repeat (first | with_reducible (first | exact blA | exact blB | refine blC _ ?_ | refine blD ?_ ?_ _ | refine blE ?_ | refine blF _ ?_ | refine blG ?_ _ | refine blH ?_ | refine blI ?_ ?_ _) | (simp only [World.size_alloc]; omega) | (simp <;> omega)))) Hbd.out hv))) | ((refine wpQuiet_guard rfl rfl rfl rfl (fun hg => ?_) (fun hg => ?_)) <;> (fail_if_success (first | guard_hyp hg : true = true | guard_hyp hg : false = false)) <;> (try simp only [decide_eq_true_eq, decide_eq_false_iff_not] at hg) <;> simp only [Act.put, List.setIfInBounds_toArray, List.set_cons_zero, List.set_cons_succ]))); all_goals ((with_reducible refine wpQuiet_nil ?_); intro zq hz))
    all_goals go_wp2
    go_ret
    exact ⟨rfl, (by repeat (first | with_reducible (first | exact blA | exact blB | refine blC _ ?_ | refine blD ?_ ?_ _ | refine blE ?_ | refine blF _ ?_ | refine blG ?_ _ | refine blH ?_ | refine blI ?_ ?_ _) | (simp only [World.size_alloc]; omega) | (simp <;> omega)))⟩
  · have hle : (rwAt rows y).length ≤ 9223372036854775807 := Nat.le_trans (sepIn_len (rwAt_in (rvalid_iff.1 hv) y)) (by decide)
    have HV := Lib.hid (rvalid_iff.1 hv)
    go_wp2
    ((refine wp_region_kinK (W := w) (by kernel_rfl) (by kernel_rfl) (by repeat (first | with_reducible (first | exact blA | exact blB | refine blC _ ?_ | refine blD ?_ ?_ _ | refine blE ?_ | refine blF _ ?_ | refine blG ?_ _ | refine blH ?_ | refine blI ?_ ?_ _) | (simp only [World.size_alloc]; omega) | (simp <;> omega))) ?_); (repeat' (first | go_big_quiet_step (first | (go_at_call 41; exact Kin.quiet _ (valid18_is _ rows _ (H.out.below (by repeat (first | with_reducible (first | exact blA | exact blB | refine blC _ ?_ | refine blD ?_ ?_ _ | refine blE ?_ | refine blF _ ?_ | refine blG ?_ _ | refine blH ?_ | refine blI ?_ ?_ _) | (simp only [World.size_alloc]; omega) | (simp <;> omega)))) Hbd.out hv)) | (go_at_call 43; exact Kin.quiet _ (row18_any _ rows y u _ (H.out.below (by repeat (first | with_reducible (first | exact blA | exact blB | refine blC _ ?_ | refine blD ?_ ?_ _ | refine blE ?_ | refine blF _ ?_ | refine blG ?_ _ | refine blH ?_ | refine blI ?_ ?_ _) | (simp only [World.size_alloc]; omega) | (simp <;> omega)))) hlen (Hu.out.below (by repeat (first | with_reducible (first | exact blA | exact blB | refine blC _ ?_ | refine blD ?_ ?_ _ | refine blE ?_ | refine blF _ ?_ | refine blG ?_ _ | refine blH ?_ | refine blI ?_ ?_ _) | (simp only [World.size_alloc]; omega) | (simp <;> omega)))))) | (go_at_call 42; exact Kin.quiet _ (inside18_any u (rwAt rows y) x _ (HR.out.below (by repeat (first | with_reducible (first | exact blA | exact blB | refine blC _ ?_ | refine blD ?_ ?_ _ | refine blE ?_ | refine blF _ ?_ | refine blG ?_ _ | refine blH ?_ | refine blI ?_ ?_ _) | (simp only [World.size_alloc]; omega) | (simp <;> omega)))) hle))) | ((refine wpQuiet_guard rfl rfl rfl rfl (fun hg => ?_) (fun hg => ?_)) <;> (fail_if_success (first | guard_hyp hg : true = true | guard_hyp hg : false = false)) <;> (try simp only [decide_eq_true_eq, decide_eq_false_iff_not] at hg) <;> simp only [Act.put, List.setIfInBounds_toArray, List.set_cons_zero, List.set_cons_succ]))); all_goals ((with_reducible refine wpQuiet_nil ?_); intro zq hz))
    all_goals go_wp2
    go_ret
    exact ⟨ret_bool (by rw [memC_rwAt HV.out]; rfl), (by repeat (first | with_reducible (first | exact blA | exact blB | refine blC _ ?_ | refine blD ?_ ?_ _ | refine blE ?_ | refine blF _ ?_ | refine blG ?_ _ | refine blH ?_ | refine blI ?_ ?_ _) | (simp only [World.size_alloc]; omega) | (simp <;> omega)))⟩
end Go.Proofs.Ytomndgjnhhchdaa

/- What Shift, Grow and Shrink return, of the program and of the chapter. -/
import Derived.Test.YtoahfkblbhoddaaRunsRef3
namespace Go.Proofs.Ytoahfkblbhoddaa
set_option linter.unusedSimpArgs false
set_option linter.unusedVariables false
open Go.RowKit Runs
attribute [local go_sem] Kin.cell Kin.frozen Kin.lt0 Kin.lt1 Kin.lt2 Kin.lt3 run_mkf
/-- the runs that stay when each end comes k nearer -/
def shr (k : Int) (l : List Run) : List Run := (l.filter (fun r => decide (r.1 + k < r.2 - k))).map (fun r => (r.1 + k, r.2 - k))
def shrinkOk (l : List Run) (k : Int) : Bool := valid l && decide (0 ≤ k ∧ k ≤ 1048576)
def shrinkL (l : List Run) (k : Int) : List Run := if shrinkOk l k then shr k l else []
theorem shr_yes {l : List Run} {k : Int} {i : Nat} {r : Run} (h : l[i]? = some r) (hr : r.1 + k < r.2 - k) : shr k (l.take (i + 1)) = shr k (l.take i) ++ [(r.1 + k, r.2 - k)] := by
  unfold shr; rw [List.take_add_one, h, List.filter_append]; simp [hr]
theorem shr_no {l : List Run} {k : Int} {i : Nat} {r : Run} (h : l[i]? = some r) (hr : ¬ r.1 + k < r.2 - k) : shr k (l.take (i + 1)) = shr k (l.take i) := by
  unfold shr; rw [List.take_add_one, h, List.filter_append]; simp [hr]
theorem shr_len (l : List Run) (k : Int) (i : Nat) : (shr k (l.take i)).length ≤ i := by
  unfold shr; rw [List.length_map]
  exact Nat.le_trans (List.length_filter_le _ _) (List.length_take_le _ _)
set_option maxRecDepth 100000 in
set_option maxHeartbeats 4000000 in
theorem shrink_any (v : Value) (l : List Run) (k : Int) (w : World) (h : Rd 2 encRun w v l) (hlen : l.length ≤ 68719476736) :
    Calls Try.prog 23 #[v, .int .i64 k] w fun e w' => (∃ u, e = .returned u ∧ w'.ownsRow w.heap.size 38 2 u (shrinkL l k).length ((shrinkL l k).flatMap encRun)) ∧ Below w.heap.size w w' := by
  obtain ⟨A, capA, rfl, hcapA, hopA⟩ := h.open_
  have HA := Lib.hid hopA
  have HLA := Lib.hid h
  clear hopA h
  cases hv : valid l
  · go_enter Try.func23, Try.ntmps23
    go_wp2_with (go_at_call 12; first | ((with_reducible refine (Kin.call _ (valid_any _ l _ (HLA.out.below (by repeat (first | with_reducible exact Below.refl _ _ | with_reducible exact Nat.le_refl _ | with_reducible refine Kin.below _ ?_ | with_reducible refine Below.alloc ?_ ?_ _ | with_reducible refine Below.drew ?_ | with_reducible refine Kin.le _ ?_ | with_reducible refine le_alloc ?_ _ | with_reducible refine le_drew ?_ | with_reducible refine Below.setCell ?_ ?_ _ | with_reducible exact Nat.le_refl _ | (simp only [World.size_alloc]; omega) | (simp <;> omega)))) (by omega))).mono ?_); rintro e w' ⟨z, rfl, rfl⟩) | ((with_reducible refine (Kin.call0 (valid_any _ l _ (HLA.out.below (by repeat (first | with_reducible exact Below.refl _ _ | with_reducible exact Nat.le_refl _ | with_reducible refine Kin.below _ ?_ | with_reducible refine Below.alloc ?_ ?_ _ | with_reducible refine Below.drew ?_ | with_reducible refine Kin.le _ ?_ | with_reducible refine le_alloc ?_ _ | with_reducible refine le_drew ?_ | with_reducible refine Below.setCell ?_ ?_ _ | with_reducible exact Nat.le_refl _ | (simp only [World.size_alloc]; omega) | (simp <;> omega)))) (by omega))).mono ?_); rintro e w' ⟨z, rfl, rfl⟩))
    go_ret
    exact ⟨⟨_, rfl, by simp only [shrinkL, shrinkOk, hv]; exact World.ownsRow_nil _ _ _ _⟩, (by repeat (first | with_reducible exact Below.refl _ _ | with_reducible exact Nat.le_refl _ | with_reducible refine Kin.below _ ?_ | with_reducible refine Below.alloc ?_ ?_ _ | with_reducible refine Below.drew ?_ | with_reducible refine Kin.le _ ?_ | with_reducible refine le_alloc ?_ _ | with_reducible refine le_drew ?_ | with_reducible refine Below.setCell ?_ ?_ _ | with_reducible exact Nat.le_refl _ | (simp only [World.size_alloc]; omega) | (simp <;> omega)))⟩
  · by_cases hk : 0 ≤ k ∧ k ≤ 1048576
    · have hsl : shrinkL l k = shr k l := by simp [shrinkL, shrinkOk, hv, hk]
      rw [hsl]
      have hk1 := hk.1
      have hk2 := hk.2
      clear hk hsl
      go_enter Try.func23, Try.ntmps23
      go_wp2_with (go_at_call 12; first | ((with_reducible refine (Kin.call _ (valid_any _ l _ (HLA.out.below (by repeat (first | with_reducible exact Below.refl _ _ | with_reducible exact Nat.le_refl _ | with_reducible refine Kin.below _ ?_ | with_reducible refine Below.alloc ?_ ?_ _ | with_reducible refine Below.drew ?_ | with_reducible refine Kin.le _ ?_ | with_reducible refine le_alloc ?_ _ | with_reducible refine le_drew ?_ | with_reducible refine Below.setCell ?_ ?_ _ | with_reducible exact Nat.le_refl _ | (simp only [World.size_alloc]; omega) | (simp <;> omega)))) (by omega))).mono ?_); rintro e w' ⟨z, rfl, rfl⟩) | ((with_reducible refine (Kin.call0 (valid_any _ l _ (HLA.out.below (by repeat (first | with_reducible exact Below.refl _ _ | with_reducible exact Nat.le_refl _ | with_reducible refine Kin.below _ ?_ | with_reducible refine Below.alloc ?_ ?_ _ | with_reducible refine Below.drew ?_ | with_reducible refine Kin.le _ ?_ | with_reducible refine le_alloc ?_ _ | with_reducible refine le_drew ?_ | with_reducible refine Below.setCell ?_ ?_ _ | with_reducible exact Nat.le_refl _ | (simp only [World.size_alloc]; omega) | (simp <;> omega)))) (by omega))).mono ?_); rintro e w' ⟨z, rfl, rfl⟩))
      go_loopw [5, 21] (fun o i wr => ∃ n : Nat, n ≤ l.length ∧ i = .int .i64 n ∧ ∃ y : Kin w, y.1 = wr ∧ wr.ownsRow w.heap.size 38 2 o (shr k (l.take n)).length ((shr k (l.take n)).flatMap encRun)) (fun _ i _ => l.length - (intOf i).toNat)
      case atStart => exact ⟨0, Nat.zero_le _, rfl, z, rfl, World.ownsRow_nil _ _ _ _⟩
      case round =>
        obtain ⟨n, hn, rfl, y, rfl, hown⟩ := hrel
        have hE := shr_len l k n
        generalize hG : shr k (l.take n) = E at hown hE
        have HG := Lib.hid hG
        clear hG
        have hrdC := Rd.own encRun_len hown
        obtain ⟨C, capC, rfl, hcapC, _⟩ := hrdC.open_
        have HWC := Lib.hid hown
        clear hown hrdC
        by_cases hlt : n < l.length
        · obtain ⟨r, hr⟩ : ∃ r, (l)[n]? = some r := ⟨_, List.getElem?_eq_getElem (by first | exact hlt | omega)⟩
          obtain ⟨bA, offA, rfl, hbA, hcA⟩ := HA.out (n) _ hr
          have r_0 : w.cell? ⟨bA, offA + n * 2, none⟩ = some (.int .i64 r.1) := by exact hcA (n) _ hr 0 _ rfl
          have r_1 : w.cell? ⟨bA, offA + n * 2 + 1, none⟩ = some (.int .i64 r.2) := by exact hcA (n) _ hr 1 _ rfl
          have HAc := Lib.hid hcA
          have Hr := Lib.hid hr
          clear hr hcA
          have hf := valid_fits hv Hr.out
          by_cases hc : r.1 + k < r.2 - k
          · go_wp2_with (at_builtin; refine wpList_app _ rfl _ _ 22 rfl encRun_len (by decide) oneR w.heap.size 38 (.agg #[.int .i64 0, .int .i64 0]) 16 infoRun rfl Try.underlying22 _ _ _ _ rfl ((HWC.out.alloc _).alloc _) _ _ _ rfl (rd_one _ encRun_len _ (r.1 + k, r.2 - k) _ rfl) ?c1 (by decide) ?c2 ?_; (case c1 => (first | (simp only [List.length_append, List.length_cons, List.length_nil]; omega) | omega | (simp; omega))); (case c2 => exact (by repeat (first | with_reducible exact Nat.le_refl _ | with_reducible refine le_alloc ?_ _ | with_reducible refine le_drew ?_ | with_reducible refine Kin.le _ ?_ | assumption | omega | (simp only [World.size_alloc]; omega)))); intro v' w1 hown' hg hbel hat'; (obtain ⟨y, rfl⟩ : ∃ y : Kin w, y.1 = w1 := ⟨⟨w1, Below.trans (by repeat (first | with_reducible exact Below.refl _ _ | with_reducible exact Nat.le_refl _ | with_reducible refine Kin.below _ ?_ | with_reducible refine Below.alloc ?_ ?_ _ | with_reducible refine Below.drew ?_ | with_reducible refine Kin.le _ ?_ | with_reducible refine le_alloc ?_ _ | with_reducible refine le_drew ?_ | with_reducible refine Below.setCell ?_ ?_ _ | with_reducible exact Nat.le_refl _ | (simp only [World.size_alloc]; omega) | (simp <;> omega))) hbel⟩, rfl⟩); clear hbel hg hat')
            go_roundw
            case rel => exact ⟨n + 1, by omega, by go_num, y, rfl, by rw [shr_yes Hr.out hc, HG.out]; exact hown'⟩
            case measure => simp [intOf]; omega
          · go_wp2
            go_roundw
            case rel => exact ⟨n + 1, by omega, by go_num, ⟨World.alloc _ _, (by repeat (first | with_reducible exact Below.refl _ _ | with_reducible exact Nat.le_refl _ | with_reducible refine Kin.below _ ?_ | with_reducible refine Below.alloc ?_ ?_ _ | with_reducible refine Below.drew ?_ | with_reducible refine Kin.le _ ?_ | with_reducible refine le_alloc ?_ _ | with_reducible refine le_drew ?_ | with_reducible refine Below.setCell ?_ ?_ _ | with_reducible exact Nat.le_refl _ | (simp only [World.size_alloc]; omega) | (simp <;> omega)))⟩, rfl, by rw [shr_no Hr.out hc, HG.out]; exact HWC.out.alloc _⟩
            case measure => simp [intOf]; omega
        · go_wp2
          go_ret
          have : n = l.length := by omega
          refine ⟨⟨_, rfl, ?_⟩, (by repeat (first | with_reducible exact Below.refl _ _ | with_reducible exact Nat.le_refl _ | with_reducible refine Kin.below _ ?_ | with_reducible refine Below.alloc ?_ ?_ _ | with_reducible refine Below.drew ?_ | with_reducible refine Kin.le _ ?_ | with_reducible refine le_alloc ?_ _ | with_reducible refine le_drew ?_ | with_reducible refine Below.setCell ?_ ?_ _ | with_reducible exact Nat.le_refl _ | (simp only [World.size_alloc]; omega) | (simp <;> omega)))⟩
          have e : shr k l = E := by rw [← HG.out, this, List.take_length]
          rw [e]; exact HWC.out
    · have hsl : shrinkL l k = [] := by simp [shrinkL, shrinkOk, hv, hk]
      rw [hsl]
      by_cases hk1 : k < 0
      all_goals
        go_enter Try.func23, Try.ntmps23
        go_wp2_with (go_at_call 12; first | ((with_reducible refine (Kin.call _ (valid_any _ l _ (HLA.out.below (by repeat (first | with_reducible exact Below.refl _ _ | with_reducible exact Nat.le_refl _ | with_reducible refine Kin.below _ ?_ | with_reducible refine Below.alloc ?_ ?_ _ | with_reducible refine Below.drew ?_ | with_reducible refine Kin.le _ ?_ | with_reducible refine le_alloc ?_ _ | with_reducible refine le_drew ?_ | with_reducible refine Below.setCell ?_ ?_ _ | with_reducible exact Nat.le_refl _ | (simp only [World.size_alloc]; omega) | (simp <;> omega)))) (by omega))).mono ?_); rintro e w' ⟨z, rfl, rfl⟩) | ((with_reducible refine (Kin.call0 (valid_any _ l _ (HLA.out.below (by repeat (first | with_reducible exact Below.refl _ _ | with_reducible exact Nat.le_refl _ | with_reducible refine Kin.below _ ?_ | with_reducible refine Below.alloc ?_ ?_ _ | with_reducible refine Below.drew ?_ | with_reducible refine Kin.le _ ?_ | with_reducible refine le_alloc ?_ _ | with_reducible refine le_drew ?_ | with_reducible refine Below.setCell ?_ ?_ _ | with_reducible exact Nat.le_refl _ | (simp only [World.size_alloc]; omega) | (simp <;> omega)))) (by omega))).mono ?_); rintro e w' ⟨z, rfl, rfl⟩))
        all_goals first
          | (exfalso; omega)
          | (go_ret; exact ⟨⟨_, rfl, World.ownsRow_nil _ _ _ _⟩, (by repeat (first | with_reducible exact Below.refl _ _ | with_reducible exact Nat.le_refl _ | with_reducible refine Kin.below _ ?_ | with_reducible refine Below.alloc ?_ ?_ _ | with_reducible refine Below.drew ?_ | with_reducible refine Kin.le _ ?_ | with_reducible refine le_alloc ?_ _ | with_reducible refine le_drew ?_ | with_reducible refine Below.setCell ?_ ?_ _ | with_reducible exact Nat.le_refl _ | (simp only [World.size_alloc]; omega) | (simp <;> omega)))⟩)
def sh (d : Int) (r : Run) : Run := (r.1 + d, r.2 + d)
def shiftOk (l : List Run) (d : Int) : Bool := l.all (fun r => fits (sh d r))
def shiftL (l : List Run) (d : Int) : List Run := if valid l && shiftOk l d then l.map (sh d) else []
def shiftE (l : List Run) (d : Int) : Int := if valid l then (if shiftOk l d then 0 else 8) else 1
/-- between the first and the last run -/
theorem sep_between {l : List Run} (h : Sep l) {n : Nat} {r q x : Run} (hl : l.length = n + 1) (hr : l[0]? = some r) (hq : l[n]? = some q) (hx : x ∈ l) : r.1 ≤ x.1 ∧ x.2 ≤ q.2 ∧ x.1 < x.2 := by
  obtain ⟨i, hi, rfl⟩ := List.getElem_of_mem hx
  have hp := List.pairwise_iff_getElem.1 h.2
  have h1 := h.1 _ (List.getElem_mem hi)
  rw [List.getElem?_eq_getElem (by omega)] at hr hq
  injection hr with hr
  injection hq with hq
  subst hr hq
  have h2 := h.1 l[0] (List.getElem_mem _)
  have h3 := h.1 l[n] (List.getElem_mem _)
  refine ⟨?_, ?_, h1⟩
  · rcases Nat.eq_zero_or_pos i with h0 | h0
    · subst h0; exact Int.le_refl _
    · have := hp 0 i (by omega) hi h0; omega
  · rcases Nat.lt_or_ge i n with h0 | h0
    · have := hp i n hi (by omega) h0; omega
    · have : i = n := by omega
      subst this; exact Int.le_refl _
theorem shift_bad {l : List Run} (hv : valid l = true) {n : Nat} {r q : Run} {d : Int} (hl : l.length = n + 1) (hr : l[0]? = some r) (hq : l[n]? = some q) (h : d < -2097152 ∨ 2097152 < d ∨ r.1 + d < -1048576 ∨ 1048576 < q.2 + d) : shiftOk l d = false := by
  rw [Bool.eq_false_iff]
  intro hs
  have h1 := List.all_eq_true.1 hs r (List.mem_of_getElem? hr)
  have h2 := List.all_eq_true.1 hs q (List.mem_of_getElem? hq)
  have h3 := valid_fits hv hr
  have h4 := valid_fits hv hq
  have h1 := fits_bd h1
  have h2 := fits_bd h2
  simp only [sh] at h1 h2
  omega
theorem shift_good {l : List Run} (hv : valid l = true) {n : Nat} {r q : Run} {d : Int} (hl : l.length = n + 1) (hr : l[0]? = some r) (hq : l[n]? = some q) (h1 : -1048576 ≤ r.1 + d) (h2 : q.2 + d ≤ 1048576) : shiftOk l d = true := by
  refine List.all_eq_true.2 fun x hx => ?_
  have := sep_between (valid_iff.1 hv).1 hl hr hq hx
  have h5 := valid_iff.1 hv
  unfold fits sh
  rw [decide_eq_true_eq]
  simp only
  omega
set_option maxRecDepth 100000 in
set_option maxHeartbeats 4000000 in
theorem shift_any (v : Value) (l : List Run) (d : Int) (w : World) (h : Rd 2 encRun w v l) (hlen : l.length ≤ 68719476736) :
    Calls Try.prog 19 #[v, .int .i64 d] w fun e w' => (∃ u, e = .returned (.tuple #[u, .int .i64 (shiftE l d)]) ∧ Rd 2 encRun w' u (shiftL l d)) ∧ Below w.heap.size w w' := by
  obtain ⟨A, capA, rfl, hcapA, hopA⟩ := h.open_
  have HA := Lib.hid hopA
  have HLA := Lib.hid h
  clear hopA h
  cases hv : valid l
  · go_enter Try.func19, Try.ntmps19
    go_wp2_with (go_at_call 12; first | ((with_reducible refine (Kin.call _ (valid_any _ l _ (HLA.out.below (by repeat (first | with_reducible exact Below.refl _ _ | with_reducible exact Nat.le_refl _ | with_reducible refine Kin.below _ ?_ | with_reducible refine Below.alloc ?_ ?_ _ | with_reducible refine Below.drew ?_ | with_reducible refine Kin.le _ ?_ | with_reducible refine le_alloc ?_ _ | with_reducible refine le_drew ?_ | with_reducible refine Below.setCell ?_ ?_ _ | with_reducible exact Nat.le_refl _ | (simp only [World.size_alloc]; omega) | (simp <;> omega)))) (by omega))).mono ?_); rintro e w' ⟨z, rfl, rfl⟩) | ((with_reducible refine (Kin.call0 (valid_any _ l _ (HLA.out.below (by repeat (first | with_reducible exact Below.refl _ _ | with_reducible exact Nat.le_refl _ | with_reducible refine Kin.below _ ?_ | with_reducible refine Below.alloc ?_ ?_ _ | with_reducible refine Below.drew ?_ | with_reducible refine Kin.le _ ?_ | with_reducible refine le_alloc ?_ _ | with_reducible refine le_drew ?_ | with_reducible refine Below.setCell ?_ ?_ _ | with_reducible exact Nat.le_refl _ | (simp only [World.size_alloc]; omega) | (simp <;> omega)))) (by omega))).mono ?_); rintro e w' ⟨z, rfl, rfl⟩))
    go_ret2
    exact ⟨⟨.slice none 0 0, by simp [shiftE, hv], by simp only [shiftL, hv]; exact Rd.nil⟩, (by repeat (first | with_reducible exact Below.refl _ _ | with_reducible exact Nat.le_refl _ | with_reducible refine Kin.below _ ?_ | with_reducible refine Below.alloc ?_ ?_ _ | with_reducible refine Below.drew ?_ | with_reducible refine Kin.le _ ?_ | with_reducible refine le_alloc ?_ _ | with_reducible refine le_drew ?_ | with_reducible refine Below.setCell ?_ ?_ _ | with_reducible exact Nat.le_refl _ | (simp only [World.size_alloc]; omega) | (simp <;> omega)))⟩
  · by_cases h0 : l.length = 0
    · have hl : l = [] := List.eq_nil_of_length_eq_zero h0
      subst hl
      simp only [List.length_nil] at HLA ⊢
      go_enter Try.func19, Try.ntmps19
      go_wp2_with (go_at_call 12; first | ((with_reducible refine (Kin.call _ (valid_any _ [] _ (HLA.out.below (by repeat (first | with_reducible exact Below.refl _ _ | with_reducible exact Nat.le_refl _ | with_reducible refine Kin.below _ ?_ | with_reducible refine Below.alloc ?_ ?_ _ | with_reducible refine Below.drew ?_ | with_reducible refine Kin.le _ ?_ | with_reducible refine le_alloc ?_ _ | with_reducible refine le_drew ?_ | with_reducible refine Below.setCell ?_ ?_ _ | with_reducible exact Nat.le_refl _ | (simp only [World.size_alloc]; omega) | (simp <;> omega)))) (by omega))).mono ?_); rintro e w' ⟨z, rfl, rfl⟩) | ((with_reducible refine (Kin.call0 (valid_any _ [] _ (HLA.out.below (by repeat (first | with_reducible exact Below.refl _ _ | with_reducible exact Nat.le_refl _ | with_reducible refine Kin.below _ ?_ | with_reducible refine Below.alloc ?_ ?_ _ | with_reducible refine Below.drew ?_ | with_reducible refine Kin.le _ ?_ | with_reducible refine le_alloc ?_ _ | with_reducible refine le_drew ?_ | with_reducible refine Below.setCell ?_ ?_ _ | with_reducible exact Nat.le_refl _ | (simp only [World.size_alloc]; omega) | (simp <;> omega)))) (by omega))).mono ?_); rintro e w' ⟨z, rfl, rfl⟩))
      go_ret2
      exact ⟨⟨.slice none 0 0, by simp [shiftE, shiftOk, hv], by simp [shiftL, shiftOk]; exact Rd.nil⟩, (by repeat (first | with_reducible exact Below.refl _ _ | with_reducible exact Nat.le_refl _ | with_reducible refine Kin.below _ ?_ | with_reducible refine Below.alloc ?_ ?_ _ | with_reducible refine Below.drew ?_ | with_reducible refine Kin.le _ ?_ | with_reducible refine le_alloc ?_ _ | with_reducible refine le_drew ?_ | with_reducible refine Below.setCell ?_ ?_ _ | with_reducible exact Nat.le_refl _ | (simp only [World.size_alloc]; omega) | (simp <;> omega)))⟩
    · obtain ⟨n, hn⟩ : ∃ n, l.length = n + 1 := ⟨l.length - 1, by omega⟩
      obtain ⟨r, hr⟩ : ∃ r, (l)[0]? = some r := ⟨_, List.getElem?_eq_getElem (by first | exact (by omega) | omega)⟩
      obtain ⟨bA, offA, rfl, hbA, hcA⟩ := HA.out (0) _ hr
      have r_0 : w.cell? ⟨bA, offA + 0 * 2, none⟩ = some (.int .i64 r.1) := by exact hcA (0) _ hr 0 _ rfl
      have r_1 : w.cell? ⟨bA, offA + 0 * 2 + 1, none⟩ = some (.int .i64 r.2) := by exact hcA (0) _ hr 1 _ rfl
      have HAc := Lib.hid hcA
      have Hr := Lib.hid hr
      clear hr hcA
      obtain ⟨q, hq⟩ : ∃ r, (l)[n]? = some r := ⟨_, List.getElem?_eq_getElem (by first | exact (by omega) | omega)⟩
      have q_0 : w.cell? ⟨bA, offA + n * 2, none⟩ = some (.int .i64 q.1) := by exact HAc.out (n) _ hq 0 _ rfl
      have q_1 : w.cell? ⟨bA, offA + n * 2 + 1, none⟩ = some (.int .i64 q.2) := by exact HAc.out (n) _ hq 1 _ rfl
      have Hq := Lib.hid hq
      clear hq
      simp only [Nat.zero_mul, Nat.add_zero] at r_0 r_1
      have hfr := valid_fits hv Hr.out
      have hfq := valid_fits hv Hq.out
      have Hb := Lib.hid (fun h => shift_bad (d := d) hv hn Hr.out Hq.out h)
      have Hg := Lib.hid (fun h => shift_good (d := d) hv hn Hr.out Hq.out h)
      have Hn := Lib.hid hn
      have hlen2 : n + 1 ≤ 68719476736 := by omega
      rw [hn]
      rw [hn] at HLA hcapA
      clear hn h0 hlen
      go_enter Try.func19, Try.ntmps19
      go_wp2_with (first | (go_at_call 12; first | ((with_reducible refine (Kin.call _ (valid_any _ l _ (HLA.out.below (by repeat (first | with_reducible exact Below.refl _ _ | with_reducible exact Nat.le_refl _ | with_reducible refine Kin.below _ ?_ | with_reducible refine Below.alloc ?_ ?_ _ | with_reducible refine Below.drew ?_ | with_reducible refine Kin.le _ ?_ | with_reducible refine le_alloc ?_ _ | with_reducible refine le_drew ?_ | with_reducible refine Below.setCell ?_ ?_ _ | with_reducible exact Nat.le_refl _ | (simp only [World.size_alloc]; omega) | (simp <;> omega)))) (by have := Hn.out; omega))).mono ?_); rintro e w' ⟨z, rfl, rfl⟩) | ((with_reducible refine (Kin.call0 (valid_any _ l _ (HLA.out.below (by repeat (first | with_reducible exact Below.refl _ _ | with_reducible exact Nat.le_refl _ | with_reducible refine Kin.below _ ?_ | with_reducible refine Below.alloc ?_ ?_ _ | with_reducible refine Below.drew ?_ | with_reducible refine Kin.le _ ?_ | with_reducible refine le_alloc ?_ _ | with_reducible refine le_drew ?_ | with_reducible refine Below.setCell ?_ ?_ _ | with_reducible exact Nat.le_refl _ | (simp only [World.size_alloc]; omega) | (simp <;> omega)))) (by have := Hn.out; omega))).mono ?_); rintro e w' ⟨z, rfl, rfl⟩)) | (at_make; refine wpList_mk _ rfl _ _ 22 rfl encRun_len (by decide) (0, 0) w.heap.size 38 (.agg #[.int .i64 0, .int .i64 0]) 16 rfl infoRun Try.underlying22 .i64 .i64 _ _ (n + 1) rfl rfl (by omega) (by omega) (by omega) (by decide) (by repeat (first | with_reducible exact Nat.le_refl _ | with_reducible refine le_alloc ?_ _ | with_reducible refine le_drew ?_ | with_reducible refine Kin.le _ ?_ | assumption | omega | (simp only [World.size_alloc]; omega))) ?_; intro w1 hmk hmb hmlt; (obtain ⟨y, rfl⟩ : ∃ y : Kin w, y.1 = w1 := ⟨⟨w1, Below.trans (by repeat (first | with_reducible exact Below.refl _ _ | with_reducible exact Nat.le_refl _ | with_reducible refine Kin.below _ ?_ | with_reducible refine Below.alloc ?_ ?_ _ | with_reducible refine Below.drew ?_ | with_reducible refine Kin.le _ ?_ | with_reducible refine le_alloc ?_ _ | with_reducible refine le_drew ?_ | with_reducible refine Below.setCell ?_ ?_ _ | with_reducible exact Nat.le_refl _ | (simp only [World.size_alloc]; omega) | (simp <;> omega))) (hmb.mono (by repeat (first | with_reducible exact Nat.le_refl _ | with_reducible refine le_alloc ?_ _ | with_reducible refine le_drew ?_ | with_reducible refine Kin.le _ ?_ | assumption | omega | (simp only [World.size_alloc]; omega))))⟩, rfl⟩); clear hmb))
      all_goals first
        | (go_ret2
           have hb := Hb.out (by omega)
           exact ⟨⟨.slice none 0 0, by simp [shiftE, hv, hb], by simp only [shiftL, hb, Bool.and_false]; exact Rd.nil⟩, (by repeat (first | with_reducible exact Below.refl _ _ | with_reducible exact Nat.le_refl _ | with_reducible refine Kin.below _ ?_ | with_reducible refine Below.alloc ?_ ?_ _ | with_reducible refine Below.drew ?_ | with_reducible refine Kin.le _ ?_ | with_reducible refine le_alloc ?_ _ | with_reducible refine le_drew ?_ | with_reducible refine Below.setCell ?_ ?_ _ | with_reducible exact Nat.le_refl _ | (simp only [World.size_alloc]; omega) | (simp <;> omega)))⟩)
        | skip
      obtain ⟨g, hg⟩ : ∃ g, g = z.1.heap.size := ⟨_, rfl⟩
      rw [← hg] at hmk hmlt ⊢
      have hgw : w.heap.size ≤ g := by rw [hg]; exact z.2.size
      clear hg
      go_loopw [50] (fun i wr => ∃ k : Nat, k ≤ n + 1 ∧ i = .int .i64 k ∧ ∃ y : Kin w, y.1 = wr ∧ g < wr.heap.size ∧ wr.ownsRow w.heap.size 38 2 (.slice (some ⟨g, 0, none⟩) (n + 1) (n + 1)) (n + 1) ((upd (sh d) (0, 0) l k).flatMap encRun)) (fun i _ => n + 1 - (intOf i).toNat)
      case atStart => exact ⟨0, Nat.zero_le _, rfl, y, rfl, hmlt, by rw [upd_zero, Hn.out]; exact hmk⟩
      case round =>
        clear hmk hmlt
        obtain ⟨k, hk, rfl, y, rfl, hgy, hown⟩ := hrel
        by_cases hlt : k < n + 1
        · have hcell := HAc.out
          obtain ⟨x, hx⟩ : ∃ x, l[k]? = some x := ⟨_, List.getElem?_eq_getElem (by rw [Hn.out]; exact hlt)⟩
          have x_0 : w.cell? ⟨bA, offA + k * 2, none⟩ = some (.int .i64 x.1) := hcell k x hx 0 _ rfl
          have x_1 : w.cell? ⟨bA, offA + k * 2 + 1, none⟩ = some (.int .i64 x.2) := hcell k x hx 1 _ rfl
          have hfx := valid_fits hv hx
          have Hx := Lib.hid hx
          clear hx hcell
          obtain ⟨u0, g0⟩ := own_some hown (k * 2) (by omega)
          obtain ⟨u1, g1⟩ := own_some hown (k * 2 + 1) (by omega)
          have f0 : y.1.frozen? ⟨g, k * 2, none⟩ = false := hown.frozenAt _
          have f1 : y.1.frozen? ⟨g, k * 2 + 1, none⟩ = false := hown.frozenAt _
          have HW := Lib.hid hown
          clear hown
          have hg2 : g < y.1.heap.size + 1 := by omega
          go_wp2
          go_roundw
          case rel => exact ⟨k + 1, by omega, by go_num, ⟨World.alloc _ _, (by repeat (first | with_reducible exact Below.refl _ _ | with_reducible exact Nat.le_refl _ | with_reducible refine Kin.below _ ?_ | with_reducible refine Below.alloc ?_ ?_ _ | with_reducible refine Below.drew ?_ | with_reducible refine Kin.le _ ?_ | with_reducible refine le_alloc ?_ _ | with_reducible refine le_drew ?_ | with_reducible refine Below.setCell ?_ ?_ _ | with_reducible exact Nat.le_refl _ | (simp only [World.size_alloc]; omega) | (simp <;> omega)))⟩, rfl, by simp; omega, by rw [upd_succ Hx.out]; exact (own_set (y := sh d x) encRun_len rfl HW.out k hlt).alloc _⟩
          case measure => simp [intOf]; omega
        · go_wp2
          go_ret2
          have hk4 : k = l.length := by rw [Hn.out]; omega
          have hok := Hg.out (by omega) (by omega)
          refine ⟨⟨.slice (some ⟨g, 0, none⟩) (n + 1) (n + 1), by simp [shiftE, hv, hok], ?_⟩, (by repeat (first | with_reducible exact Below.refl _ _ | with_reducible exact Nat.le_refl _ | with_reducible refine Kin.below _ ?_ | with_reducible refine Below.alloc ?_ ?_ _ | with_reducible refine Below.drew ?_ | with_reducible refine Kin.le _ ?_ | with_reducible refine le_alloc ?_ _ | with_reducible refine le_drew ?_ | with_reducible refine Below.setCell ?_ ?_ _ | with_reducible exact Nat.le_refl _ | (simp only [World.size_alloc]; omega) | (simp <;> omega)))⟩
          simp only [shiftL, hv, hok, Bool.and_self, if_true]
          rw [hk4, upd_all] at hown
          exact Rd.own' encRun_len (by decide) hown
end Go.Proofs.Ytoahfkblbhoddaa

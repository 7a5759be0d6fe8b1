/- What Shift, Grow and Shrink return, of the program and of the chapter. (joined: RunsMoves RunsMoves2 RunsMath3) -/
import Derived.Test.YtbdmibbpojmkiaaRunsRef3
/- What Shift, Grow and Shrink return, of the program and of the chapter. -/
namespace Go.Proofs.Ytbdmibbpojmkiaa
set_option linter.unusedSimpArgs false
set_option linter.unusedVariables false
open Go.RowKit Runs
attribute [local go_sem] Kin.cell Kin.frozen Kin.lt0 Kin.lt1 Kin.lt2 Kin.lt3 run_mkf
/-- the runs that stay when each end comes k nearer -/
def shr (k : Int) (l : List Run) : List Run := (l.filter (fun r => decide (r.1 + k < r.2 - k))).map (fun r => (r.1 + k, r.2 - k))
def shrinkOk (l : List Run) (k : Int) : Bool := valid l && decide (0 ≤ k ∧ k ≤ 1048576)
def shrinkL (l : List Run) (k : Int) : List Run := if shrinkOk l k then shr k l else []
theorem shr_yes {l : List Run} {k : Int} {i : Nat} {r : Run} (h : l[i]? = some r) (hr : r.1 + k < r.2 - k) : shr k (l.take (i + 1)) = shr k (l.take i) ++ [(r.1 + k, r.2 - k)] := by
  unfold shr; rw [List.take_add_one, h, List.filter_append]; simp [hr]
theorem shr_no {l : List Run} {k : Int} {i : Nat} {r : Run} (h : l[i]? = some r) (hr : ¬ r.1 + k < r.2 - k) : shr k (l.take (i + 1)) = shr k (l.take i) := by
  unfold shr; rw [List.take_add_one, h, List.filter_append]; simp [hr]
theorem shr_len (l : List Run) (k : Int) (i : Nat) : (shr k (l.take i)).length ≤ i := by
  unfold shr; rw [List.length_map]
  exact Nat.le_trans (List.length_filter_le _ _) (List.length_take_le _ _)
def sh (d : Int) (r : Run) : Run := (r.1 + d, r.2 + d)
def shiftOk (l : List Run) (d : Int) : Bool := l.all (fun r => fits (sh d r))
def shiftL (l : List Run) (d : Int) : List Run := if valid l && shiftOk l d then l.map (sh d) else []
def shiftE (l : List Run) (d : Int) : Int := if valid l then (if shiftOk l d then 0 else 8) else 1
/-- between the first and the last run -/
theorem sep_between {l : List Run} (h : Sep l) {n : Nat} {r q x : Run} (hl : l.length = n + 1) (hr : l[0]? = some r) (hq : l[n]? = some q) (hx : x ∈ l) : r.1 ≤ x.1 ∧ x.2 ≤ q.2 ∧ x.1 < x.2 := by
  obtain ⟨i, hi, rfl⟩ := List.getElem_of_mem hx
  have hp := List.pairwise_iff_getElem.1 h.2
  have h1 := h.1 _ (List.getElem_mem hi)
  rw [List.getElem?_eq_getElem (by omega)] at hr hq
  injection hr with hr
  injection hq with hq
  subst hr hq
  have h2 := h.1 l[0] (List.getElem_mem _)
  have h3 := h.1 l[n] (List.getElem_mem _)
  refine ⟨?_, ?_, h1⟩
  · rcases Nat.eq_zero_or_pos i with h0 | h0
    · subst h0; exact Int.le_refl _
    · have := hp 0 i (by omega) hi h0; omega
  · rcases Nat.lt_or_ge i n with h0 | h0
    · have := hp i n hi (by omega) h0; omega
    · have : i = n := by omega
      subst this; exact Int.le_refl _
theorem shift_bad {l : List Run} (hv : valid l = true) {n : Nat} {r q : Run} {d : Int} (hl : l.length = n + 1) (hr : l[0]? = some r) (hq : l[n]? = some q) (h : d < -2097152 ∨ 2097152 < d ∨ r.1 + d < -1048576 ∨ 1048576 < q.2 + d) : shiftOk l d = false := by
  rw [Bool.eq_false_iff]
  intro hs
  have h1 := List.all_eq_true.1 hs r (List.mem_of_getElem? hr)
  have h2 := List.all_eq_true.1 hs q (List.mem_of_getElem? hq)
  have h3 := valid_fits hv hr
  have h4 := valid_fits hv hq
  have h1 := fits_bd h1
  have h2 := fits_bd h2
  simp only [sh] at h1 h2
  omega
theorem shift_good {l : List Run} (hv : valid l = true) {n : Nat} {r q : Run} {d : Int} (hl : l.length = n + 1) (hr : l[0]? = some r) (hq : l[n]? = some q) (h1 : -1048576 ≤ r.1 + d) (h2 : q.2 + d ≤ 1048576) : shiftOk l d = true := by
  refine List.all_eq_true.2 fun x hx => ?_
  have := sep_between (valid_iff.1 hv).1 hl hr hq hx
  have h5 := valid_iff.1 hv
  unfold fits sh
  rw [decide_eq_true_eq]
  simp only
  omega
set_option maxRecDepth 100000 in
set_option maxHeartbeats 4000000 in
theorem shift_any (v : Value) (l : List Run) (d : Int) (w : World) (h : Rd 2 encRun w v l) (hlen : l.length ≤ 68719476736) :
    Calls Try.prog 38 #[v, .int .i64 d] w fun e w' => (∃ u, e = .returned (.tuple #[u, .int .i64 (shiftE l d)]) ∧ Rd 2 encRun w' u (shiftL l d)) ∧ Below w.heap.size w w' := by
  obtain ⟨A, capA, rfl, hcapA, hopA⟩ := h.open_
  have HA := Lib.hid hopA
  have HLA := Lib.hid h
  clear hopA h
  cases hv : valid l
  · go_enter Try.func38, Try.ntmps38
    go_wp2_with (go_at_call 39; first | ((with_reducible refine (Kin.call _ (valid_any _ l _ (HLA.out.below (by repeat (first | with_reducible (first | exact blA | exact blB | refine blC _ ?_ | refine blD ?_ ?_ _ | refine blE ?_ | refine blF _ ?_ | refine blG ?_ _ | refine blH ?_ | refine blI ?_ ?_ _) | (simp only [World.size_alloc]; omega) | (simp <;> omega)))) (by omega))).mono ?_); rintro e w' ⟨z, rfl, rfl⟩) | ((with_reducible refine (Kin.call0 (valid_any _ l _ (HLA.out.below (by repeat (first | with_reducible (first | exact blA | exact blB | refine blC _ ?_ | refine blD ?_ ?_ _ | refine blE ?_ | refine blF _ ?_ | refine blG ?_ _ | refine blH ?_ | refine blI ?_ ?_ _) | (simp only [World.size_alloc]; omega) | (simp <;> omega)))) (by omega))).mono ?_); rintro e w' ⟨z, rfl, rfl⟩))
    go_ret2
    exact ⟨⟨.slice none 0 0, by simp [shiftE, hv], by simp only [shiftL, hv]; exact Rd.nil⟩, (by repeat (first | with_reducible (first | exact blA | exact blB | refine blC _ ?_ | refine blD ?_ ?_ _ | refine blE ?_ | refine blF _ ?_ | refine blG ?_ _ | refine blH ?_ | refine blI ?_ ?_ _) | (simp only [World.size_alloc]; omega) | (simp <;> omega)))⟩
  · by_cases h0 : l.length = 0
    · have hl : l = [] := List.eq_nil_of_length_eq_zero h0
      subst hl
      simp only [List.length_nil] at HLA ⊢
      go_enter Try.func38, Try.ntmps38
      go_wp2_with (go_at_call 39; first | ((with_reducible refine (Kin.call _ (valid_any _ [] _ (HLA.out.below (by repeat (first | with_reducible (first | exact blA | exact blB | refine blC _ ?_ | refine blD ?_ ?_ _ | refine blE ?_ | refine blF _ ?_ | refine blG ?_ _ | refine blH ?_ | refine blI ?_ ?_ _) | (simp only [World.size_alloc]; omega) | (simp <;> omega)))) (by omega))).mono ?_); rintro e w' ⟨z, rfl, rfl⟩) | ((with_reducible refine (Kin.call0 (valid_any _ [] _ (HLA.out.below (by repeat (first | with_reducible (first | exact blA | exact blB | refine blC _ ?_ | refine blD ?_ ?_ _ | refine blE ?_ | refine blF _ ?_ | refine blG ?_ _ | refine blH ?_ | refine blI ?_ ?_ _) | (simp only [World.size_alloc]; omega) | (simp <;> omega)))) (by omega))).mono ?_); rintro e w' ⟨z, rfl, rfl⟩))
      go_ret2
      exact ⟨⟨.slice none 0 0, by simp [shiftE, shiftOk, hv], by simp [shiftL, shiftOk]; exact Rd.nil⟩, (by repeat (first | with_reducible (first | exact blA | exact blB | refine blC _ ?_ | refine blD ?_ ?_ _ | refine blE ?_ | refine blF _ ?_ | refine blG ?_ _ | refine blH ?_ | refine blI ?_ ?_ _) | (simp only [World.size_alloc]; omega) | (simp <;> omega)))⟩
    · obtain ⟨n, hn⟩ : ∃ n, l.length = n + 1 := ⟨l.length - 1, by omega⟩
      obtain ⟨r, hr⟩ : ∃ el_, (l)[0]? = some el_ := ⟨_, List.getElem?_eq_getElem (by first | exact (by omega) | omega)⟩
      obtain ⟨bA, offA, rfl, hbA, hcA⟩ := HA.out (0) _ hr
      have r_0 : w.cell? ⟨bA, offA + 0 * 2, none⟩ = some (.int .i64 r.1) := by exact hcA (0) _ hr 0 _ rfl
      have r_1 : w.cell? ⟨bA, offA + 0 * 2 + 1, none⟩ = some (.int .i64 r.2) := by exact hcA (0) _ hr 1 _ rfl
      have hbA2 : bA < w.heap.size + 1 := by omega
      have HAc := Lib.hid hcA
      have Hr := Lib.hid hr
      clear hr hcA
      obtain ⟨q, hq⟩ : ∃ el_, (l)[n]? = some el_ := ⟨_, List.getElem?_eq_getElem (by first | exact (by omega) | omega)⟩
      have q_0 : w.cell? ⟨bA, offA + n * 2, none⟩ = some (.int .i64 q.1) := by exact HAc.out (n) _ hq 0 _ rfl
      have q_1 : w.cell? ⟨bA, offA + n * 2 + 1, none⟩ = some (.int .i64 q.2) := by exact HAc.out (n) _ hq 1 _ rfl
      have Hq := Lib.hid hq
      clear hq
      simp only [Nat.zero_mul, Nat.add_zero] at r_0 r_1
      have hfr := valid_fits hv Hr.out
      have hfq := valid_fits hv Hq.out
      have Hb := Lib.hid (fun h => shift_bad (d := d) hv hn Hr.out Hq.out h)
      have Hg := Lib.hid (fun h => shift_good (d := d) hv hn Hr.out Hq.out h)
      have Hn := Lib.hid hn
      have hlen2 : n + 1 ≤ 68719476736 := by omega
      rw [hn]
      rw [hn] at HLA hcapA
      clear hn h0 hlen
      go_enter Try.func38, Try.ntmps38
      go_wp2_with (first | (go_at_call 39; first | ((with_reducible refine (Kin.call _ (valid_any _ l _ (HLA.out.below (by repeat (first | with_reducible (first | exact blA | exact blB | refine blC _ ?_ | refine blD ?_ ?_ _ | refine blE ?_ | refine blF _ ?_ | refine blG ?_ _ | refine blH ?_ | refine blI ?_ ?_ _) | (simp only [World.size_alloc]; omega) | (simp <;> omega)))) (by have := Hn.out; omega))).mono ?_); rintro e w' ⟨z, rfl, rfl⟩) | ((with_reducible refine (Kin.call0 (valid_any _ l _ (HLA.out.below (by repeat (first | with_reducible (first | exact blA | exact blB | refine blC _ ?_ | refine blD ?_ ?_ _ | refine blE ?_ | refine blF _ ?_ | refine blG ?_ _ | refine blH ?_ | refine blI ?_ ?_ _) | (simp only [World.size_alloc]; omega) | (simp <;> omega)))) (by have := Hn.out; omega))).mono ?_); rintro e w' ⟨z, rfl, rfl⟩)) | (at_make; refine wpList_mk _ rfl _ _ 41 rfl encRun_len (by decide) (0, 0) w.heap.size 46 (.agg #[.int .i64 0, .int .i64 0]) 16 rfl infoRun Try.underlying41 .i64 .i64 _ _ (n + 1) rfl rfl (by omega) (by omega) (by omega) (by decide) (by repeat (first | with_reducible exact Nat.le_refl _ | assumption | with_reducible refine le_alloc ?_ _ | with_reducible refine le_drew ?_ | with_reducible refine Kin.le _ ?_ | assumption | omega | (simp only [World.size_alloc]; omega))) ?_; intro w1 hmk hmb hmlt; (obtain ⟨y, rfl⟩ : ∃ y : Kin w, y.1 = w1 := ⟨⟨w1, Below.trans (by repeat (first | with_reducible (first | exact blA | exact blB | refine blC _ ?_ | refine blD ?_ ?_ _ | refine blE ?_ | refine blF _ ?_ | refine blG ?_ _ | refine blH ?_ | refine blI ?_ ?_ _) | (simp only [World.size_alloc]; omega) | (simp <;> omega))) (hmb.mono (by repeat (first | with_reducible exact Nat.le_refl _ | assumption | with_reducible refine le_alloc ?_ _ | with_reducible refine le_drew ?_ | with_reducible refine Kin.le _ ?_ | assumption | omega | (simp only [World.size_alloc]; omega))))⟩, rfl⟩); clear hmb))
      all_goals first
        | (go_ret2
           have hb := Hb.out (by omega)
           exact ⟨⟨.slice none 0 0, by simp [shiftE, hv, hb], by simp only [shiftL, hb, Bool.and_false]; exact Rd.nil⟩, (by repeat (first | with_reducible (first | exact blA | exact blB | refine blC _ ?_ | refine blD ?_ ?_ _ | refine blE ?_ | refine blF _ ?_ | refine blG ?_ _ | refine blH ?_ | refine blI ?_ ?_ _) | (simp only [World.size_alloc]; omega) | (simp <;> omega)))⟩)
        | skip
      obtain ⟨g, hg⟩ : ∃ g, g = z.1.heap.size := ⟨_, rfl⟩
      rw [← hg] at hmk hmlt ⊢
      have hgw : w.heap.size ≤ g := by rw [hg]; exact z.2.size
      clear hg
      go_loopw [50] (fun i wr => ∃ k : Nat, k ≤ n + 1 ∧ i = .int .i64 k ∧ ∃ y : Kin w, y.1 = wr ∧ g < wr.heap.size ∧ wr.ownsRow w.heap.size 46 2 (.slice (some ⟨g, 0, none⟩) (n + 1) (n + 1)) (n + 1) ((upd (sh d) (0, 0) l k).flatMap encRun)) (fun i _ => n + 1 - (intOf i).toNat)
      case atStart => exact ⟨0, Nat.zero_le _, rfl, y, rfl, hmlt, by rw [upd_zero, Hn.out]; exact hmk⟩
      case round =>
        clear hmk hmlt
        obtain ⟨k, hk, rfl, y, rfl, hgy, hown⟩ := hrel
        by_cases hlt : k < n + 1
        · have hcell := HAc.out
          obtain ⟨x, hx⟩ : ∃ x, l[k]? = some x := ⟨_, List.getElem?_eq_getElem (by rw [Hn.out]; exact hlt)⟩
          have x_0 : w.cell? ⟨bA, offA + k * 2, none⟩ = some (.int .i64 x.1) := hcell k x hx 0 _ rfl
          have x_1 : w.cell? ⟨bA, offA + k * 2 + 1, none⟩ = some (.int .i64 x.2) := hcell k x hx 1 _ rfl
          have hfx := valid_fits hv hx
          have Hx := Lib.hid hx
          clear hx hcell
          obtain ⟨u0, g0⟩ := own_some hown (k * 2) (by omega)
          obtain ⟨u1, g1⟩ := own_some hown (k * 2 + 1) (by omega)
          have f0 : y.1.frozen? ⟨g, k * 2, none⟩ = false := hown.frozenAt _
          have f1 : y.1.frozen? ⟨g, k * 2 + 1, none⟩ = false := hown.frozenAt _
          have HW := Lib.hid hown
          clear hown
          have hg2 : g < y.1.heap.size + 1 := by omega
          go_wp2
          go_roundw
          case rel => exact ⟨k + 1, by omega, by go_num, ⟨World.alloc _ _, (by repeat (first | with_reducible (first | exact blA | exact blB | refine blC _ ?_ | refine blD ?_ ?_ _ | refine blE ?_ | refine blF _ ?_ | refine blG ?_ _ | refine blH ?_ | refine blI ?_ ?_ _) | (simp only [World.size_alloc]; omega) | (simp <;> omega)))⟩, rfl, by simp; omega, by rw [upd_succ Hx.out]; exact (own_set (y := sh d x) encRun_len rfl HW.out k hlt).alloc _⟩
          case measure => simp [intOf]; omega
        · go_wp2
          go_ret2
          have hk4 : k = l.length := by rw [Hn.out]; omega
          have hok := Hg.out (by omega) (by omega)
          refine ⟨⟨.slice (some ⟨g, 0, none⟩) (n + 1) (n + 1), by simp [shiftE, hv, hok], ?_⟩, (by repeat (first | with_reducible (first | exact blA | exact blB | refine blC _ ?_ | refine blD ?_ ?_ _ | refine blE ?_ | refine blF _ ?_ | refine blG ?_ _ | refine blH ?_ | refine blI ?_ ?_ _) | (simp only [World.size_alloc]; omega) | (simp <;> omega)))⟩
          simp only [shiftL, hv, hok, Bool.and_self, if_true]
          rw [hk4, upd_all] at hown
          exact Rd.own' encRun_len (by decide) hown
end Go.Proofs.Ytbdmibbpojmkiaa
/- What Grow returns, and what the chapter's Shift, Grow and Shrink return. -/
namespace Go.Proofs.Ytbdmibbpojmkiaa
set_option linter.unusedSimpArgs false
set_option linter.unusedVariables false
open Go.RowKit Runs
attribute [local go_sem] Kin.cell Kin.frozen Kin.lt0 Kin.lt1 Kin.lt2 Kin.lt3 run_mkf
def gr (k : Int) (r : Run) : Run := (r.1 - k, r.2 + k)
def growOk (l : List Run) (k : Int) : Bool := valid l && decide (0 ≤ k ∧ k ≤ 65536)
def growL (l : List Run) (k : Int) : List Run := if growOk l k then normR (l.map (gr k)) else []
def growE (l : List Run) (k : Int) : Int := if growOk l k then normE (l.map (gr k)) else 1
theorem full_gr {l : List Run} {k : Int} (hv : valid l = true) (hk : 0 ≤ k) : full (l.map (gr k)) = l.map (gr k) := by
  unfold full
  rw [List.filter_eq_self]
  intro x hx
  obtain ⟨r, hr, rfl⟩ := List.mem_map.1 hx
  have := (valid_iff.1 hv).1.1 r hr
  show decide (r.1 - k < r.2 + k) = true
  rw [decide_eq_true_eq]; omega
theorem grow_bad {l : List Run} (hv : valid l = true) {n : Nat} {r q : Run} {k : Int} (hk : 0 ≤ k) (hr : l[0]? = some r) (hq : l[n]? = some q) (h : r.1 - k < -1048576 ∨ 1048576 < q.2 + k) : normOk (l.map (gr k)) = false := by
  unfold normOk
  rw [full_gr hv hk, Bool.eq_false_iff]
  intro hs
  have h1 := fits_bd (List.all_eq_true.1 hs _ (List.mem_map_of_mem (List.mem_of_getElem? hr)))
  have h2 := fits_bd (List.all_eq_true.1 hs _ (List.mem_map_of_mem (List.mem_of_getElem? hq)))
  simp only [gr] at h1 h2
  omega
theorem grow_good {l : List Run} (hv : valid l = true) {n : Nat} {r q : Run} {k : Int} (hk : 0 ≤ k) (hl : l.length = n + 1) (hr : l[0]? = some r) (hq : l[n]? = some q) (h1 : -1048576 ≤ r.1 - k) (h2 : q.2 + k ≤ 1048576) : normOk (l.map (gr k)) = true ∧ jn (l.map (gr k)) = norm (l.map (gr k)) := by
  constructor
  · unfold normOk
    rw [full_gr hv hk]
    refine List.all_eq_true.2 fun x hx => ?_
    obtain ⟨y, hy, rfl⟩ := List.mem_map.1 hx
    have := sep_between (valid_iff.1 hv).1 hl hr hq hy
    unfold fits gr
    rw [decide_eq_true_eq]
    simp only
    omega
  · refine jn_norm (by rw [full_gr hv hk]) ?_
    rw [List.pairwise_map]
    have h3 := (valid_iff.1 hv).1
    have h4 : l.Pairwise (fun a b => a.1 < b.1) := by
      rw [List.pairwise_iff_getElem]
      intro i j hi hj hij
      have := List.pairwise_iff_getElem.1 h3.2 i j hi hj hij
      have := h3.1 _ (List.getElem_mem hi)
      omega
    exact h4.imp fun {a b} h => by simp only [gr]; omega
theorem shiftTo {l : List Run} {d : Int} {k : Nat} {r : Run} (h : l[k]? = some r) (hm : shiftOk (l.take k) d = true) (h1 : okI (r.1 + d) = true) (h2 : okI (r.2 + d) = true) : shiftOk (l.take (k + 1)) d = true := by
  unfold shiftOk at *
  rw [List.take_add_one, h, List.all_append, hm]
  simp [fits_okI, sh, h1, h2]
theorem shift_bad2 {l : List Run} {d : Int} {k : Nat} {r : Run} (h : l[k]? = some r) (h1 : okI (r.1 + d) = false ∨ okI (r.2 + d) = false) : shiftOk l d = false := by
  rw [Bool.eq_false_iff]
  intro hs
  have := List.all_eq_true.1 hs r (List.mem_of_getElem? h)
  rw [fits_okI] at this
  simp only [sh, Bool.and_eq_true] at this
  rcases h1 with h1 | h1 <;> simp [h1] at this
theorem okI_far {x : Int} (h : x < -1048576 ∨ 1048576 < x) : okI x = false := by
  unfold okI; rw [decide_eq_false_iff_not]; omega
end Go.Proofs.Ytbdmibbpojmkiaa
/- The laws of sets for lists of runs; Grow and Shrink are adjoint; with no program in sight. -/
namespace Go.Proofs.Ytbdmibbpojmkiaa
set_option linter.unusedSimpArgs false
set_option linter.unusedVariables false
open Runs
theorem valid_ext {a b : List Run} (ha : valid a = true) (hb : valid b = true) (h : ∀ x, mem a x = mem b x) : a = b := sep_ext (valid_iff.1 ha).1 (valid_iff.1 hb).1 h
theorem setop_spec (n : Int) {a b : List Run} (ha : valid a = true) (hb : valid b = true) : valid (setop (opf n) a b) = true ∧ ∀ x, mem (setop (opf n) a b) x = opf n (mem a x) (mem b x) := by
  have e : setop (opf n) a b = Runs.choose (opf n) a b := by simp [setop, ha, hb]
  rw [e]
  exact ⟨valid_choose (opf_ff n) ha hb, (choose_spec (opf_ff n) a b).2⟩
theorem valid_nil : valid [] = true := rfl
theorem normR_valid {l : List Run} : valid (normR l) = true := by
  unfold normR
  split
  · rename_i h
    obtain ⟨h1, h2⟩ := norm_spec l
    refine valid_iff.2 ⟨h1, fit_of_mem h1 fun x hx => ?_⟩
    rw [h2, ← full_mem] at hx
    obtain ⟨r, hr, h3, h4⟩ := mem_iff.1 hx
    have := fits_bd (List.all_eq_true.1 h r hr)
    omega
  · rfl
theorem empty_iff {a : List Run} (ha : valid a = true) : a = [] ↔ ∀ x, mem a x = false := by
  constructor
  · rintro rfl x; rfl
  · intro h; exact valid_ext ha valid_nil fun x => by rw [h]; rfl
/-- how many of the n integers from lo on P holds of -/
def cnt (P : Int → Bool) (lo : Int) : Nat → Int
  | 0 => 0
  | n + 1 => cnt P lo n + if P (lo + n) then 1 else 0
theorem cnt_add {P Q R S : Int → Bool} (lo : Int) (h : ∀ x, ((if P x then 1 else 0) + (if Q x then 1 else 0) : Int) = (if R x then 1 else 0) + (if S x then 1 else 0)) : ∀ n, cnt P lo n + cnt Q lo n = cnt R lo n + cnt S lo n
  | 0 => rfl
  | n + 1 => by
    have := cnt_add lo h n
    have := h (lo + n)
    simp only [cnt]
    omega
theorem cnt_false (lo : Int) : ∀ n, cnt (fun _ => false) lo n = 0
  | 0 => rfl
  | n + 1 => by simp [cnt, cnt_false lo n]
theorem cnt_run {r : Run} {lo : Int} (h0 : r.1 ≤ r.2) (h : lo ≤ r.1) : ∀ n : Nat, cnt (inR r) lo n = if lo + n ≤ r.1 then 0 else if lo + n ≤ r.2 then lo + n - r.1 else r.2 - r.1
  | 0 => by simp only [cnt]; split <;> (try split) <;> omega
  | n + 1 => by
    simp only [cnt]
    rw [cnt_run h0 h n]
    by_cases h1 : r.1 ≤ lo + n ∧ lo + n < r.2
    · have : inR r (lo + n) = true := by simp [inR, h1.1, h1.2]
      rw [this]
      simp only [if_true]
      repeat' split
      all_goals omega
    · have : inR r (lo + n) = false := by simp [inR]; omega
      rw [this]
      simp only [Bool.false_eq_true, if_false]
      repeat' split
      all_goals omega
theorem sumL_cnt {lo : Int} {n : Nat} : ∀ {l : List Run}, Sep l → (∀ r ∈ l, lo ≤ r.1 ∧ r.2 ≤ lo + n) → sumL l = cnt (mem l) lo n
  | [], _, _ => by
    have : mem [] = fun _ => false := rfl
    rw [this, cnt_false]; rfl
  | r :: l, hs, hb => by
    obtain ⟨h1, h2, h3⟩ := sep_cons.1 hs
    have ih := sumL_cnt (lo := lo) (n := n) h3 (fun q hq => hb q (by simp [hq]))
    have hr := hb r (by simp)
    have hadd := cnt_add (P := mem (r :: l)) (Q := fun _ => false) (R := inR r) (S := mem l) lo (fun x => by
      rw [mem_cons]
      cases e1 : inR r x
      · simp
      · have : mem l x = false := not_mem_of_lt fun q hq => by
          have := h2 q hq
          simp [inR] at e1
          omega
        simp [this]) n
    rw [cnt_false, ← ih, cnt_run (by omega) hr.1, if_neg (by omega)] at hadd
    have e : sumL (r :: l) = (r.2 - r.1) + sumL l := rfl
    rw [e]
    split at hadd <;> omega
theorem lenL_cnt {l : List Run} (hv : valid l = true) : lenL l = cnt (mem l) (-1048576) 2097152 := by
  unfold lenL
  rw [if_pos hv]
  refine sumL_cnt (valid_iff.1 hv).1 fun r hr => ?_
  have := fits_bd ((valid_iff.1 hv).2 r hr)
  omega
theorem len_sum {a b : List Run} (ha : valid a = true) (hb : valid b = true) : lenL (setop (opf 2) a b) + lenL (setop (opf 1) a b) = lenL a + lenL b := by
  obtain ⟨u1, u2⟩ := setop_spec 2 ha hb
  obtain ⟨i1, i2⟩ := setop_spec 1 ha hb
  rw [lenL_cnt u1, lenL_cnt i1, lenL_cnt ha, lenL_cnt hb]
  refine cnt_add _ (fun x => ?_) _
  rw [u2, i2]
  cases mem a x <;> cases mem b x <;> rfl
section
variable {a b c : List Run} (ha : valid a = true) (hb : valid b = true) (hc : valid c = true)
include ha hb
theorem sets_whole : setop (opf 2) (setop (opf 1) a b) (setop (opf 0) a b) = a := by
  obtain ⟨i1, i2⟩ := setop_spec 1 ha hb
  obtain ⟨d1, d2⟩ := setop_spec 0 ha hb
  obtain ⟨u1, u2⟩ := setop_spec 2 i1 d1
  refine valid_ext u1 ha fun x => ?_
  rw [u2, i2, d2]
  cases mem a x <;> cases mem b x <;> rfl
theorem sets_apart : setop (opf 1) (setop (opf 1) a b) (setop (opf 0) a b) = [] := by
  obtain ⟨i1, i2⟩ := setop_spec 1 ha hb
  obtain ⟨d1, d2⟩ := setop_spec 0 ha hb
  obtain ⟨u1, u2⟩ := setop_spec 1 i1 d1
  refine valid_ext u1 valid_nil fun x => ?_
  rw [u2, i2, d2]
  cases mem a x <;> cases mem b x <;> rfl
include hc
theorem sets_assoc : setop (opf 2) (setop (opf 2) a b) c = setop (opf 2) a (setop (opf 2) b c) := by
  obtain ⟨u1, u2⟩ := setop_spec 2 ha hb
  obtain ⟨v1, v2⟩ := setop_spec 2 hb hc
  obtain ⟨p1, p2⟩ := setop_spec 2 u1 hc
  obtain ⟨q1, q2⟩ := setop_spec 2 ha v1
  refine valid_ext p1 q1 fun x => ?_
  rw [p2, q2, u2, v2]
  cases mem a x <;> cases mem b x <;> cases mem c x <;> rfl
theorem sets_distr : setop (opf 1) (setop (opf 2) a b) c = setop (opf 2) (setop (opf 1) a c) (setop (opf 1) b c) := by
  obtain ⟨u1, u2⟩ := setop_spec 2 ha hb
  obtain ⟨v1, v2⟩ := setop_spec 1 ha hc
  obtain ⟨w1, w2⟩ := setop_spec 1 hb hc
  obtain ⟨p1, p2⟩ := setop_spec 1 u1 hc
  obtain ⟨q1, q2⟩ := setop_spec 2 v1 w1
  refine valid_ext p1 q1 fun x => ?_
  rw [p2, q2, u2, v2, w2]
  cases mem a x <;> cases mem b x <;> cases mem c x <;> rfl
theorem sets_minus : setop (opf 0) (setop (opf 0) a b) c = setop (opf 0) a (setop (opf 2) b c) := by
  obtain ⟨u1, u2⟩ := setop_spec 0 ha hb
  obtain ⟨v1, v2⟩ := setop_spec 2 hb hc
  obtain ⟨p1, p2⟩ := setop_spec 0 u1 hc
  obtain ⟨q1, q2⟩ := setop_spec 0 ha v1
  refine valid_ext p1 q1 fun x => ?_
  rw [p2, q2, u2, v2]
  cases mem a x <;> cases mem b x <;> cases mem c x <;> rfl
end
theorem minus_empty {a b : List Run} (ha : valid a = true) (hb : valid b = true) : (setop (opf 0) a b).length = 0 ↔ ∀ x, mem a x = true → mem b x = true := by
  obtain ⟨u1, u2⟩ := setop_spec 0 ha hb
  rw [List.length_eq_zero_iff, empty_iff u1]
  constructor
  · intro h x hx
    have := h x
    rw [u2, hx] at this
    cases hb2 : mem b x
    · rw [hb2] at this; cases this
    · rfl
  · intro h x
    rw [u2]
    cases hx : mem a x
    · cases mem b x <;> rfl
    · rw [h x hx]; rfl
theorem mem_gr {a : List Run} {k x : Int} (ha : valid a = true) (hk : 0 ≤ k) : mem (a.map (gr k)) x = true ↔ ∃ y, y - k ≤ x ∧ x ≤ y + k ∧ mem a y = true := by
  rw [mem_iff]
  constructor
  · rintro ⟨q, hq, h1, h2⟩
    obtain ⟨r, hr, rfl⟩ := List.mem_map.1 hq
    have h3 := (valid_iff.1 ha).1.1 r hr
    simp only [gr] at h1 h2
    rcases Int.lt_or_le x r.1 with h | h
    · exact ⟨r.1, by omega, by omega, mem_iff.2 ⟨r, hr, by omega, by omega⟩⟩
    · rcases Int.lt_or_le x r.2 with h' | h'
      · exact ⟨x, by omega, by omega, mem_iff.2 ⟨r, hr, by omega, by omega⟩⟩
      · exact ⟨r.2 - 1, by omega, by omega, mem_iff.2 ⟨r, hr, by omega, by omega⟩⟩
  · rintro ⟨y, h1, h2, hy⟩
    obtain ⟨r, hr, h3, h4⟩ := mem_iff.1 hy
    exact ⟨gr k r, List.mem_map_of_mem hr, by simp only [gr]; omega, by simp only [gr]; omega⟩
theorem mem_shr {b : List Run} {k y : Int} (hb : valid b = true) (hk : 0 ≤ k) : mem (shr k b) y = true ↔ ∀ x, y - k ≤ x → x ≤ y + k → mem b x = true := by
  rw [mem_iff]
  unfold shr
  constructor
  · rintro ⟨q, hq, h1, h2⟩ x hx1 hx2
    obtain ⟨r, hr, rfl⟩ := List.mem_map.1 hq
    simp only at h1 h2
    exact mem_iff.2 ⟨r, (List.mem_filter.1 hr).1, by omega, by omega⟩
  · intro h
    obtain ⟨r, hr, h1, h2⟩ := mem_iff.1 (h (y - k) (by omega) (by omega))
    have h3 : y + k < r.2 := by
      refine Int.lt_of_not_ge fun hc => ?_
      obtain ⟨q, hq, h4, h5⟩ := mem_iff.1 (h r.2 (by omega) (by omega))
      obtain ⟨i, hi, rfl⟩ := List.getElem_of_mem hr
      obtain ⟨j, hj, rfl⟩ := List.getElem_of_mem hq
      have hs := (valid_iff.1 hb).1
      have hp := List.pairwise_iff_getElem.1 hs.2
      rcases Nat.lt_trichotomy i j with hij | hij | hij
      · have := hp i j hi hj hij; omega
      · subst hij; omega
      · have := hp j i hj hi hij
        have := hs.1 _ (List.getElem_mem hi)
        omega
    refine ⟨(r.1 + k, r.2 - k), List.mem_map.2 ⟨r, List.mem_filter.2 ⟨hr, ?_⟩, rfl⟩, by simp only; omega, by simp only; omega⟩
    rw [decide_eq_true_eq]; omega
theorem shrink_valid {b : List Run} {k : Int} : valid (shrinkL b k) = true := by
  unfold shrinkL
  split
  · rename_i h
    simp [shrinkOk] at h
    obtain ⟨hb, hk1, hk2⟩ := h
    obtain ⟨hs, hf⟩ := valid_iff.1 hb
    refine valid_iff.2 ⟨⟨fun q hq => ?_, ?_⟩, fun q hq => ?_⟩
    · obtain ⟨r, hr, rfl⟩ := List.mem_map.1 hq
      simpa using (List.mem_filter.1 hr).2
    · unfold shr
      rw [List.pairwise_map]
      exact (hs.2.filter _).imp fun {a b} h => by simp only; omega
    · obtain ⟨r, hr, rfl⟩ := List.mem_map.1 hq
      obtain ⟨h1, h2⟩ := List.mem_filter.1 hr
      have := fits_bd (hf r h1)
      simp at h2
      simp [fits]; omega
  · rfl
theorem grow_ok {a : List Run} {k : Int} (h : growE a k = 0) : valid a = true ∧ 0 ≤ k ∧ k ≤ 65536 ∧ growL a k = norm (a.map (gr k)) := by
  unfold growE at h
  split at h
  · rename_i hg
    have hg2 := hg
    simp [growOk] at hg2
    have hn : normOk (a.map (gr k)) = true := by
      unfold normE at h
      split at h
      · assumption
      · cases h
    exact ⟨hg2.1, hg2.2.1, hg2.2.2, by simp [growL, hg, normR, hn]⟩
  · cases h
theorem grow_valid {a : List Run} {k : Int} : valid (growL a k) = true := by
  unfold growL; split
  · exact normR_valid
  · rfl
theorem mem_grow {a : List Run} {k : Int} (h : growE a k = 0) (x : Int) : mem (growL a k) x = true ↔ ∃ y, y - k ≤ x ∧ x ≤ y + k ∧ mem a y = true := by
  obtain ⟨h1, h2, h3, h4⟩ := grow_ok h
  rw [h4, (norm_spec _).2, mem_gr h1 h2]
theorem mem_shrink {b : List Run} {k : Int} (hb : valid b = true) (h1 : 0 ≤ k) (h2 : k ≤ 65536) (y : Int) : mem (shrinkL b k) y = true ↔ ∀ x, y - k ≤ x → x ≤ y + k → mem b x = true := by
  have : shrinkL b k = shr k b := by
    unfold shrinkL; rw [if_pos]; simp [shrinkOk, hb, h1]; omega
  rw [this, mem_shr hb h1]
/-- Grow and Shrink are adjoint -/
theorem adjoint {a b : List Run} {k : Int} (hb : valid b = true) (h : growE a k = 0) : (setop (opf 0) (growL a k) b).length = 0 ↔ (setop (opf 0) a (shrinkL b k)).length = 0 := by
  obtain ⟨ha, h1, h2, _⟩ := grow_ok h
  rw [minus_empty grow_valid hb, minus_empty ha shrink_valid]
  constructor
  · intro hs y hy
    rw [mem_shrink hb h1 h2]
    intro x hx1 hx2
    exact hs x ((mem_grow h x).2 ⟨y, by omega, by omega, hy⟩)
  · intro hs x hx
    obtain ⟨y, hy1, hy2, hy⟩ := (mem_grow h x).1 hx
    exact (mem_shrink hb h1 h2 y).1 (hs y hy) x (by omega) (by omega)
theorem adjoint_in {a : List Run} {k : Int} (h : growE a k = 0) : (setop (opf 0) a (shrinkL (growL a k) k)).length = 0 := by
  rw [← adjoint grow_valid h, minus_empty grow_valid grow_valid]
  exact fun _ h => h
theorem open_ok {b : List Run} {k : Int} (hb : valid b = true) (h1 : 0 ≤ k) (h2 : k ≤ 65536) : growE (shrinkL b k) k = 0 := by
  have hg : growOk (shrinkL b k) k = true := by simp [growOk, shrink_valid, h1, h2]
  unfold growE
  rw [if_pos hg]
  unfold normE
  rw [if_pos]
  unfold normOk
  refine List.all_eq_true.2 fun q hq => ?_
  obtain ⟨r, hr, rfl⟩ := List.mem_map.1 (List.mem_filter.1 hq).1
  have e : shrinkL b k = shr k b := by
    unfold shrinkL; rw [if_pos]; simp [shrinkOk, hb, h1]; omega
  rw [e] at hr
  obtain ⟨s, hs, rfl⟩ := List.mem_map.1 hr
  have := fits_bd ((valid_iff.1 hb).2 s (List.mem_filter.1 hs).1)
  simp [fits, gr]; omega
theorem open_in {b : List Run} {k : Int} (hb : valid b = true) (h1 : 0 ≤ k) (h2 : k ≤ 65536) : (setop (opf 0) (growL (shrinkL b k) k) b).length = 0 := by
  rw [adjoint hb (open_ok hb h1 h2), minus_empty shrink_valid shrink_valid]
  exact fun _ h => h
end Go.Proofs.Ytbdmibbpojmkiaa

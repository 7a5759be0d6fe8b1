/- What Grow returns, and what the chapter's Shift, Grow and Shrink return. -/
import Derived.Test.YtlhmopndnohnhaaRunsMoves
namespace Go.Proofs.Ytlhmopndnohnhaa
set_option linter.unusedSimpArgs false
set_option linter.unusedVariables false
open Go.RowKit Runs
attribute [local go_sem] Kin.cell Kin.frozen Kin.lt0 Kin.lt1 Kin.lt2 Kin.lt3 run_mkf
def gr (k : Int) (r : Run) : Run := (r.1 - k, r.2 + k)
def growOk (l : List Run) (k : Int) : Bool := valid l && decide (0 ≤ k ∧ k ≤ 65536)
def growL (l : List Run) (k : Int) : List Run := if growOk l k then normR (l.map (gr k)) else []
def growE (l : List Run) (k : Int) : Int := if growOk l k then normE (l.map (gr k)) else 1
theorem full_gr {l : List Run} {k : Int} (hv : valid l = true) (hk : 0 ≤ k) : full (l.map (gr k)) = l.map (gr k) := by
  unfold full
  rw [List.filter_eq_self]
  intro x hx
  obtain ⟨r, hr, rfl⟩ := List.mem_map.1 hx
  have := (valid_iff.1 hv).1.1 r hr
  show decide (r.1 - k < r.2 + k) = true
  rw [decide_eq_true_eq]; omega
theorem grow_bad {l : List Run} (hv : valid l = true) {n : Nat} {r q : Run} {k : Int} (hk : 0 ≤ k) (hr : l[0]? = some r) (hq : l[n]? = some q) (h : r.1 - k < -1048576 ∨ 1048576 < q.2 + k) : normOk (l.map (gr k)) = false := by
  unfold normOk
  rw [full_gr hv hk, Bool.eq_false_iff]
  intro hs
  have h1 := fits_bd (List.all_eq_true.1 hs _ (List.mem_map_of_mem (List.mem_of_getElem? hr)))
  have h2 := fits_bd (List.all_eq_true.1 hs _ (List.mem_map_of_mem (List.mem_of_getElem? hq)))
  simp only [gr] at h1 h2
  omega
theorem grow_good {l : List Run} (hv : valid l = true) {n : Nat} {r q : Run} {k : Int} (hk : 0 ≤ k) (hl : l.length = n + 1) (hr : l[0]? = some r) (hq : l[n]? = some q) (h1 : -1048576 ≤ r.1 - k) (h2 : q.2 + k ≤ 1048576) : normOk (l.map (gr k)) = true ∧ jn (l.map (gr k)) = norm (l.map (gr k)) := by
  constructor
  · unfold normOk
    rw [full_gr hv hk]
    refine List.all_eq_true.2 fun x hx => ?_
    obtain ⟨y, hy, rfl⟩ := List.mem_map.1 hx
    have := sep_between (valid_iff.1 hv).1 hl hr hq hy
    unfold fits gr
    rw [decide_eq_true_eq]
    simp only
    omega
  · refine jn_norm (by rw [full_gr hv hk]) ?_
    rw [List.pairwise_map]
    have h3 := (valid_iff.1 hv).1
    have h4 : l.Pairwise (fun a b => a.1 < b.1) := by
      rw [List.pairwise_iff_getElem]
      intro i j hi hj hij
      have := List.pairwise_iff_getElem.1 h3.2 i j hi hj hij
      have := h3.1 _ (List.getElem_mem hi)
      omega
    exact h4.imp fun {a b} h => by simp only [gr]; omega
set_option maxRecDepth 100000 in
set_option maxHeartbeats 4000000 in
theorem grow_any (v : Value) (l : List Run) (k : Int) (w : World) (h : Rd 2 encRun w v l) (hlen : l.length ≤ 68719476736) :
    Calls Try.prog 38 #[v, .int .i64 k] w fun e w' => (∃ u, e = .returned (.tuple #[u, .int .i64 (growE l k)]) ∧ Rd 2 encRun w' u (growL l k)) ∧ Below w.heap.size w w' := by
  obtain ⟨A, capA, rfl, hcapA, hopA⟩ := h.open_
  have HA := Lib.hid hopA
  have HLA := Lib.hid h
  clear hopA h
  cases hv : valid l
  · go_enter Try.func38, Try.ntmps38
    go_wp2_with (go_at_call 48; first | ((with_reducible refine (Kin.call _ (valid_any _ l _ (HLA.out.below (by repeat (first | with_reducible exact Below.refl _ _ | with_reducible exact Nat.le_refl _ | with_reducible refine Kin.below _ ?_ | with_reducible refine Below.alloc ?_ ?_ _ | with_reducible refine Below.drew ?_ | with_reducible refine Kin.le _ ?_ | with_reducible refine le_alloc ?_ _ | with_reducible refine le_drew ?_ | with_reducible refine Below.setCell ?_ ?_ _ | with_reducible exact Nat.le_refl _ | (simp only [World.size_alloc]; omega) | (simp <;> omega)))) (by omega))).mono ?_); rintro e w' ⟨z, rfl, rfl⟩) | ((with_reducible refine (Kin.call0 (valid_any _ l _ (HLA.out.below (by repeat (first | with_reducible exact Below.refl _ _ | with_reducible exact Nat.le_refl _ | with_reducible refine Kin.below _ ?_ | with_reducible refine Below.alloc ?_ ?_ _ | with_reducible refine Below.drew ?_ | with_reducible refine Kin.le _ ?_ | with_reducible refine le_alloc ?_ _ | with_reducible refine le_drew ?_ | with_reducible refine Below.setCell ?_ ?_ _ | with_reducible exact Nat.le_refl _ | (simp only [World.size_alloc]; omega) | (simp <;> omega)))) (by omega))).mono ?_); rintro e w' ⟨z, rfl, rfl⟩))
    go_ret2
    exact ⟨⟨.slice none 0 0, by simp [growE, growOk, hv], by simp only [growL, growOk, hv]; exact Rd.nil⟩, (by repeat (first | with_reducible exact Below.refl _ _ | with_reducible exact Nat.le_refl _ | with_reducible refine Kin.below _ ?_ | with_reducible refine Below.alloc ?_ ?_ _ | with_reducible refine Below.drew ?_ | with_reducible refine Kin.le _ ?_ | with_reducible refine le_alloc ?_ _ | with_reducible refine le_drew ?_ | with_reducible refine Below.setCell ?_ ?_ _ | with_reducible exact Nat.le_refl _ | (simp only [World.size_alloc]; omega) | (simp <;> omega)))⟩
  · by_cases hk : 0 ≤ k ∧ k ≤ 65536
    case neg =>
      by_cases hk1 : k < 0
      all_goals
        go_enter Try.func38, Try.ntmps38
        go_wp2_with (go_at_call 48; first | ((with_reducible refine (Kin.call _ (valid_any _ l _ (HLA.out.below (by repeat (first | with_reducible exact Below.refl _ _ | with_reducible exact Nat.le_refl _ | with_reducible refine Kin.below _ ?_ | with_reducible refine Below.alloc ?_ ?_ _ | with_reducible refine Below.drew ?_ | with_reducible refine Kin.le _ ?_ | with_reducible refine le_alloc ?_ _ | with_reducible refine le_drew ?_ | with_reducible refine Below.setCell ?_ ?_ _ | with_reducible exact Nat.le_refl _ | (simp only [World.size_alloc]; omega) | (simp <;> omega)))) (by omega))).mono ?_); rintro e w' ⟨z, rfl, rfl⟩) | ((with_reducible refine (Kin.call0 (valid_any _ l _ (HLA.out.below (by repeat (first | with_reducible exact Below.refl _ _ | with_reducible exact Nat.le_refl _ | with_reducible refine Kin.below _ ?_ | with_reducible refine Below.alloc ?_ ?_ _ | with_reducible refine Below.drew ?_ | with_reducible refine Kin.le _ ?_ | with_reducible refine le_alloc ?_ _ | with_reducible refine le_drew ?_ | with_reducible refine Below.setCell ?_ ?_ _ | with_reducible exact Nat.le_refl _ | (simp only [World.size_alloc]; omega) | (simp <;> omega)))) (by omega))).mono ?_); rintro e w' ⟨z, rfl, rfl⟩))
        all_goals first
          | (exfalso; omega)
          | (go_ret2; exact ⟨⟨.slice none 0 0, by simp [growE, growOk, hv, hk], by simp only [growL, growOk, hv, hk]; exact Rd.nil⟩, (by repeat (first | with_reducible exact Below.refl _ _ | with_reducible exact Nat.le_refl _ | with_reducible refine Kin.below _ ?_ | with_reducible refine Below.alloc ?_ ?_ _ | with_reducible refine Below.drew ?_ | with_reducible refine Kin.le _ ?_ | with_reducible refine le_alloc ?_ _ | with_reducible refine le_drew ?_ | with_reducible refine Below.setCell ?_ ?_ _ | with_reducible exact Nat.le_refl _ | (simp only [World.size_alloc]; omega) | (simp <;> omega)))⟩)
    case pos =>
    have hgo : growOk l k = true := by simp [growOk, hv, hk]
    have hge : growE l k = normE (l.map (gr k)) := by simp [growE, hgo]
    have hgl : growL l k = normR (l.map (gr k)) := by simp [growL, hgo]
    rw [hge, hgl]
    have hk1 := hk.1
    have hk2 := hk.2
    clear hk hge hgl hgo
    by_cases h0 : l.length = 0
    · have hl : l = [] := List.eq_nil_of_length_eq_zero h0
      subst hl
      simp only [List.length_nil] at HLA ⊢
      go_enter Try.func38, Try.ntmps38
      go_wp2_with (go_at_call 48; first | ((with_reducible refine (Kin.call _ (valid_any _ [] _ (HLA.out.below (by repeat (first | with_reducible exact Below.refl _ _ | with_reducible exact Nat.le_refl _ | with_reducible refine Kin.below _ ?_ | with_reducible refine Below.alloc ?_ ?_ _ | with_reducible refine Below.drew ?_ | with_reducible refine Kin.le _ ?_ | with_reducible refine le_alloc ?_ _ | with_reducible refine le_drew ?_ | with_reducible refine Below.setCell ?_ ?_ _ | with_reducible exact Nat.le_refl _ | (simp only [World.size_alloc]; omega) | (simp <;> omega)))) (by omega))).mono ?_); rintro e w' ⟨z, rfl, rfl⟩) | ((with_reducible refine (Kin.call0 (valid_any _ [] _ (HLA.out.below (by repeat (first | with_reducible exact Below.refl _ _ | with_reducible exact Nat.le_refl _ | with_reducible refine Kin.below _ ?_ | with_reducible refine Below.alloc ?_ ?_ _ | with_reducible refine Below.drew ?_ | with_reducible refine Kin.le _ ?_ | with_reducible refine le_alloc ?_ _ | with_reducible refine le_drew ?_ | with_reducible refine Below.setCell ?_ ?_ _ | with_reducible exact Nat.le_refl _ | (simp only [World.size_alloc]; omega) | (simp <;> omega)))) (by omega))).mono ?_); rintro e w' ⟨z, rfl, rfl⟩))
      go_ret2
      exact ⟨⟨.slice none 0 0, by simp [normE, normOk, full], by simp [normR, normOk, full, norm, jn]; exact Rd.nil⟩, (by repeat (first | with_reducible exact Below.refl _ _ | with_reducible exact Nat.le_refl _ | with_reducible refine Kin.below _ ?_ | with_reducible refine Below.alloc ?_ ?_ _ | with_reducible refine Below.drew ?_ | with_reducible refine Kin.le _ ?_ | with_reducible refine le_alloc ?_ _ | with_reducible refine le_drew ?_ | with_reducible refine Below.setCell ?_ ?_ _ | with_reducible exact Nat.le_refl _ | (simp only [World.size_alloc]; omega) | (simp <;> omega)))⟩
    · obtain ⟨n, hn⟩ : ∃ n, l.length = n + 1 := ⟨l.length - 1, by omega⟩
      obtain ⟨r, hr⟩ : ∃ el_, (l)[0]? = some el_ := ⟨_, List.getElem?_eq_getElem (by first | exact (by omega) | omega)⟩
      obtain ⟨bA, offA, rfl, hbA, hcA⟩ := HA.out (0) _ hr
      have r_0 : w.cell? ⟨bA, offA + 0 * 2, none⟩ = some (.int .i64 r.1) := by exact hcA (0) _ hr 0 _ rfl
      have r_1 : w.cell? ⟨bA, offA + 0 * 2 + 1, none⟩ = some (.int .i64 r.2) := by exact hcA (0) _ hr 1 _ rfl
      have hbA2 : bA < w.heap.size + 1 := by omega
      have HAc := Lib.hid hcA
      have Hr := Lib.hid hr
      clear hr hcA
      obtain ⟨q, hq⟩ : ∃ el_, (l)[n]? = some el_ := ⟨_, List.getElem?_eq_getElem (by first | exact (by omega) | omega)⟩
      have q_0 : w.cell? ⟨bA, offA + n * 2, none⟩ = some (.int .i64 q.1) := by exact HAc.out (n) _ hq 0 _ rfl
      have q_1 : w.cell? ⟨bA, offA + n * 2 + 1, none⟩ = some (.int .i64 q.2) := by exact HAc.out (n) _ hq 1 _ rfl
      have Hq := Lib.hid hq
      clear hq
      simp only [Nat.zero_mul, Nat.add_zero] at r_0 r_1
      have hfr := valid_fits hv Hr.out
      have hfq := valid_fits hv Hq.out
      have Hb := Lib.hid (fun h => grow_bad hv hk1 Hr.out Hq.out h)
      have Hg := Lib.hid (fun h => grow_good hv hk1 hn Hr.out Hq.out h)
      have Hn := Lib.hid hn
      have hlen2 : n + 1 ≤ 68719476736 := by omega
      rw [hn]
      rw [hn] at HLA hcapA
      clear hn h0 hlen
      go_enter Try.func38, Try.ntmps38
      go_wp2_with (first | (go_at_call 48; first | ((with_reducible refine (Kin.call _ (valid_any _ l _ (HLA.out.below (by repeat (first | with_reducible exact Below.refl _ _ | with_reducible exact Nat.le_refl _ | with_reducible refine Kin.below _ ?_ | with_reducible refine Below.alloc ?_ ?_ _ | with_reducible refine Below.drew ?_ | with_reducible refine Kin.le _ ?_ | with_reducible refine le_alloc ?_ _ | with_reducible refine le_drew ?_ | with_reducible refine Below.setCell ?_ ?_ _ | with_reducible exact Nat.le_refl _ | (simp only [World.size_alloc]; omega) | (simp <;> omega)))) (by have := Hn.out; omega))).mono ?_); rintro e w' ⟨z, rfl, rfl⟩) | ((with_reducible refine (Kin.call0 (valid_any _ l _ (HLA.out.below (by repeat (first | with_reducible exact Below.refl _ _ | with_reducible exact Nat.le_refl _ | with_reducible refine Kin.below _ ?_ | with_reducible refine Below.alloc ?_ ?_ _ | with_reducible refine Below.drew ?_ | with_reducible refine Kin.le _ ?_ | with_reducible refine le_alloc ?_ _ | with_reducible refine le_drew ?_ | with_reducible refine Below.setCell ?_ ?_ _ | with_reducible exact Nat.le_refl _ | (simp only [World.size_alloc]; omega) | (simp <;> omega)))) (by have := Hn.out; omega))).mono ?_); rintro e w' ⟨z, rfl, rfl⟩)) | (at_make; refine wpList_mk _ rfl _ _ 48 rfl encRun_len (by decide) (0, 0) w.heap.size 53 (.agg #[.int .i64 0, .int .i64 0]) 16 rfl infoRun Try.underlying48 .i64 .i64 _ _ (n + 1) rfl rfl (by omega) (by omega) (by omega) (by decide) (by repeat (first | with_reducible exact Nat.le_refl _ | assumption | with_reducible refine le_alloc ?_ _ | with_reducible refine le_drew ?_ | with_reducible refine Kin.le _ ?_ | assumption | omega | (simp only [World.size_alloc]; omega))) ?_; intro w1 hmk hmb hmlt; (obtain ⟨y, rfl⟩ : ∃ y : Kin w, y.1 = w1 := ⟨⟨w1, Below.trans (by repeat (first | with_reducible exact Below.refl _ _ | with_reducible exact Nat.le_refl _ | with_reducible refine Kin.below _ ?_ | with_reducible refine Below.alloc ?_ ?_ _ | with_reducible refine Below.drew ?_ | with_reducible refine Kin.le _ ?_ | with_reducible refine le_alloc ?_ _ | with_reducible refine le_drew ?_ | with_reducible refine Below.setCell ?_ ?_ _ | with_reducible exact Nat.le_refl _ | (simp only [World.size_alloc]; omega) | (simp <;> omega))) (hmb.mono (by repeat (first | with_reducible exact Nat.le_refl _ | assumption | with_reducible refine le_alloc ?_ _ | with_reducible refine le_drew ?_ | with_reducible refine Kin.le _ ?_ | assumption | omega | (simp only [World.size_alloc]; omega))))⟩, rfl⟩); clear hmb))
      all_goals first
        | (go_ret2
           have hb := Hb.out (by omega)
           exact ⟨⟨.slice none 0 0, by simp [normE, hb], by simp only [normR, hb]; exact Rd.nil⟩, (by repeat (first | with_reducible exact Below.refl _ _ | with_reducible exact Nat.le_refl _ | with_reducible refine Kin.below _ ?_ | with_reducible refine Below.alloc ?_ ?_ _ | with_reducible refine Below.drew ?_ | with_reducible refine Kin.le _ ?_ | with_reducible refine le_alloc ?_ _ | with_reducible refine le_drew ?_ | with_reducible refine Below.setCell ?_ ?_ _ | with_reducible exact Nat.le_refl _ | (simp only [World.size_alloc]; omega) | (simp <;> omega)))⟩)
        | skip
      obtain ⟨g, hg⟩ : ∃ g, g = z.1.heap.size := ⟨_, rfl⟩
      rw [← hg] at hmk hmlt ⊢
      have hgw : w.heap.size ≤ g := by rw [hg]; exact z.2.size
      clear hg
      go_loopw [50] (fun i wr => ∃ m : Nat, m ≤ n + 1 ∧ i = .int .i64 m ∧ ∃ y : Kin w, y.1 = wr ∧ g < wr.heap.size ∧ wr.ownsRow w.heap.size 53 2 (.slice (some ⟨g, 0, none⟩) (n + 1) (n + 1)) (n + 1) ((upd (gr k) (0, 0) l m).flatMap encRun)) (fun i _ => n + 1 - (intOf i).toNat)
      case atStart => exact ⟨0, Nat.zero_le _, rfl, y, rfl, hmlt, by rw [upd_zero, Hn.out]; exact hmk⟩
      case round =>
        clear hmk hmlt
        obtain ⟨m, hm, rfl, y, rfl, hgy, hown⟩ := hrel
        by_cases hlt : m < n + 1
        · have hcell := HAc.out
          obtain ⟨x, hx⟩ : ∃ x, l[m]? = some x := ⟨_, List.getElem?_eq_getElem (by rw [Hn.out]; exact hlt)⟩
          have x_0 : w.cell? ⟨bA, offA + m * 2, none⟩ = some (.int .i64 x.1) := hcell m x hx 0 _ rfl
          have x_1 : w.cell? ⟨bA, offA + m * 2 + 1, none⟩ = some (.int .i64 x.2) := hcell m x hx 1 _ rfl
          have hfx := valid_fits hv hx
          have Hx := Lib.hid hx
          clear hx hcell
          obtain ⟨u0, g0⟩ := own_some hown (m * 2) (by omega)
          obtain ⟨u1, g1⟩ := own_some hown (m * 2 + 1) (by omega)
          have f0 : y.1.frozen? ⟨g, m * 2, none⟩ = false := hown.frozenAt _
          have f1 : y.1.frozen? ⟨g, m * 2 + 1, none⟩ = false := hown.frozenAt _
          have HW := Lib.hid hown
          clear hown
          have hg2 : g < y.1.heap.size + 1 := by omega
          go_wp2
          go_roundw
          case rel => exact ⟨m + 1, by omega, by go_num, ⟨World.alloc _ _, (by repeat (first | with_reducible exact Below.refl _ _ | with_reducible exact Nat.le_refl _ | with_reducible refine Kin.below _ ?_ | with_reducible refine Below.alloc ?_ ?_ _ | with_reducible refine Below.drew ?_ | with_reducible refine Kin.le _ ?_ | with_reducible refine le_alloc ?_ _ | with_reducible refine le_drew ?_ | with_reducible refine Below.setCell ?_ ?_ _ | with_reducible exact Nat.le_refl _ | (simp only [World.size_alloc]; omega) | (simp <;> omega)))⟩, rfl, by simp; omega, by rw [upd_succ Hx.out]; exact (own_set (y := gr k x) encRun_len rfl HW.out m hlt).alloc _⟩
          case measure => simp [intOf]; omega
        · have hk4 : m = l.length := by rw [Hn.out]; omega
          rw [hk4, upd_all] at hown
          have HR := Lib.hid (Rd.own' encRun_len (by decide) hown)
          have hlm : (l.map (gr k)).length ≤ n + 1 := by have := own_len encRun_len (by decide) hown; omega
          clear hown hk4
          go_wp2_with (go_at_call 57; (with_reducible refine (Kin.callK (W := w) (by repeat (first | with_reducible exact Below.refl _ _ | with_reducible exact Nat.le_refl _ | with_reducible refine Kin.below _ ?_ | with_reducible refine Below.alloc ?_ ?_ _ | with_reducible refine Below.drew ?_ | with_reducible refine Kin.le _ ?_ | with_reducible refine le_alloc ?_ _ | with_reducible refine le_drew ?_ | with_reducible refine Below.setCell ?_ ?_ _ | with_reducible exact Nat.le_refl _ | (simp only [World.size_alloc]; omega) | (simp <;> omega))) (join_any _ (l.map (gr k)) _ (HR.out.below (by repeat (first | with_reducible exact Below.refl _ _ | with_reducible exact Nat.le_refl _ | with_reducible refine Kin.below _ ?_ | with_reducible refine Below.alloc ?_ ?_ _ | with_reducible refine Below.drew ?_ | with_reducible refine Kin.le _ ?_ | with_reducible refine le_alloc ?_ _ | with_reducible refine le_drew ?_ | with_reducible refine Below.setCell ?_ ?_ _ | with_reducible exact Nat.le_refl _ | (simp only [World.size_alloc]; omega) | (simp <;> omega)))) (by omega))).mono ?_); rintro e w' ⟨z, ⟨u, rfl, hu⟩, hz, rfl⟩; (have HU := Lib.hid hu; clear hu))
          go_ret2
          obtain ⟨hok, hj⟩ := Hg.out (by omega) (by omega)
          refine ⟨⟨u, by simp [normE, hok], ?_⟩, (by repeat (first | with_reducible exact Below.refl _ _ | with_reducible exact Nat.le_refl _ | with_reducible refine Kin.below _ ?_ | with_reducible refine Below.alloc ?_ ?_ _ | with_reducible refine Below.drew ?_ | with_reducible refine Kin.le _ ?_ | with_reducible refine le_alloc ?_ _ | with_reducible refine le_drew ?_ | with_reducible refine Below.setCell ?_ ?_ _ | with_reducible exact Nat.le_refl _ | (simp only [World.size_alloc]; omega) | (simp <;> omega)))⟩
          simp only [normR, hok, if_true]
          rw [← hj]
          exact Rd.own encRun_len HU.out
theorem shiftTo {l : List Run} {d : Int} {k : Nat} {r : Run} (h : l[k]? = some r) (hm : shiftOk (l.take k) d = true) (h1 : okI (r.1 + d) = true) (h2 : okI (r.2 + d) = true) : shiftOk (l.take (k + 1)) d = true := by
  unfold shiftOk at *
  rw [List.take_add_one, h, List.all_append, hm]
  simp [fits_okI, sh, h1, h2]
theorem shift_bad2 {l : List Run} {d : Int} {k : Nat} {r : Run} (h : l[k]? = some r) (h1 : okI (r.1 + d) = false ∨ okI (r.2 + d) = false) : shiftOk l d = false := by
  rw [Bool.eq_false_iff]
  intro hs
  have := List.all_eq_true.1 hs r (List.mem_of_getElem? h)
  rw [fits_okI] at this
  simp only [sh, Bool.and_eq_true] at this
  rcases h1 with h1 | h1 <;> simp [h1] at this
theorem okI_far {x : Int} (h : x < -1048576 ∨ 1048576 < x) : okI x = false := by
  unfold okI; rw [decide_eq_false_iff_not]; omega
end Go.Proofs.Ytlhmopndnohnhaa

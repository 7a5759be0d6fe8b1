/- What the chapter's definitions on runs return: insert, bounds, in. -/
import Derived.Test.YtfoedkdmckhihaaRunsJoin
import Derived.Test.YtfoedkdmckhihaaRunsMath2
import Derived.Test.YtfoedkdmckhihaaApp
namespace Go.Proofs.Ytfoedkdmckhihaa
set_option linter.unusedSimpArgs false
set_option linter.unusedVariables false
open Go.RowKit Runs
attribute [local go_sem] Kin.cell Kin.frozen Kin.lt0 Kin.lt1 Kin.lt2
theorem insI_no {l : List Int} {x : Int} {k : Nat} {r : Int} {E : List Int} (HE : (E, false) = insTo l x k) (h : l[k]? = some r) (hx : r < x) : insTo l x (k + 1) = (E ++ [r], false) := by
  rw [insTo_succ h, ← HE, istep, if_neg (by simp; omega)]
theorem insI_lt {l : List Int} {x : Int} {k : Nat} {r : Int} {E : List Int} (HE : (E, false) = insTo l x k) (h : l[k]? = some r) (hx : x < r) : insTo l x (k + 1) = (E ++ [x] ++ [r], true) := by
  rw [insTo_succ h, ← HE, istep, if_pos (by simp; omega), if_pos hx]
theorem insI_eq {l : List Int} {x : Int} {k : Nat} {r : Int} {E : List Int} (HE : (E, false) = insTo l x k) (h : l[k]? = some r) (h1 : x ≤ r) (h2 : r ≤ x) : insTo l x (k + 1) = (E ++ [r], true) := by
  rw [insTo_succ h, ← HE, istep, if_pos (by simp; omega), if_neg (by omega)]
theorem insI_done {l : List Int} {x : Int} {k : Nat} {r : Int} {E : List Int} (HE : (E, true) = insTo l x k) (h : l[k]? = some r) : insTo l x (k + 1) = (E ++ [r], true) := by
  rw [insTo_succ h, ← HE, istep, if_neg (by simp)]
theorem oneR : OneC encRun := fun x u hu => by simp [encRun] at hu; rcases hu with rfl | rfl <;> rfl
theorem mem_hit {l : List Run} {k : Nat} {r : Run} {x : Int} (h : l[k]? = some r) (h1 : r.1 ≤ x) (h2 : x < r.2) : mem l x = true := mem_iff.2 ⟨r, List.mem_of_getElem? h, h1, h2⟩
theorem mem_take_no {l : List Run} {k : Nat} {r : Run} {x : Int} (h : l[k]? = some r) (hm : mem (l.take k) x = false) (h1 : ¬ (r.1 ≤ x ∧ x < r.2)) : mem (l.take (k + 1)) x = false := by
  rw [List.take_add_one, h, mem_append, hm]
  simp [mem, inR]; omega
theorem Rd.take {α : Type} {k : Nat} {enc : α → List Value} {W : World} {A : Option Addr} {n c m : Nat} {xs : List α} (h : Rd k enc W (.slice A n c) xs) (hm : m ≤ n) : Rd k enc W (.slice A m c) (xs.take m) := by
  obtain ⟨A', cap, hv, hc, h⟩ := h
  injection hv with h1 h2 h3
  subst h1 h2 h3
  refine ⟨A, c, by rw [List.length_take, Nat.min_eq_left hm], by rw [List.length_take]; omega, ?_⟩
  rcases h with h | ⟨b, off, hA, hlt, hc⟩
  · left; subst h; simp
  · right; refine ⟨b, off, hA, hlt, fun i x hx => hc i x ?_⟩
    rw [List.getElem?_take] at hx
    split at hx
    · exact hx
    · cases hx
set_option maxRecDepth 100000 in
set_option maxHeartbeats 4000000 in
theorem insert_any (v : Value) (l : List Int) (x : Int) (w : World) (h : Rd 1 encI w v l) (hlen : l.length ≤ 1099511627776) :
    Calls Try.prog 117 #[v, .int .i64 x] w fun e w' => (∃ u, e = .returned u ∧ w'.ownsRow w.heap.size 3 1 u (ins l x).length ((ins l x).flatMap encI)) ∧ Below w.heap.size w w' := by
  obtain ⟨i0, hi, hz0, hz1, hz2⟩ := info_parts infoInt
  obtain ⟨A, capA, rfl, hcapA, hopA⟩ := h.open_
  have HA := Lib.hid hopA
  have HLA := Lib.hid h
  clear hopA h
  go_enter Try.func117, Try.ntmps117
  go_wp2
  go_loopw [5, 6, 7] (fun o d i wr => ∃ k : Nat, k ≤ l.length ∧ i = .int .i64 k ∧ d = .bool (insTo l x k).2 ∧ ∃ z : Kin w, z.1 = wr ∧ wr.ownsRow w.heap.size 3 1 o (insTo l x k).1.length ((insTo l x k).1.flatMap encI)) (fun _ _ i _ => l.length - (intOf i).toNat)
  case atStart => exact ⟨0, Nat.zero_le _, rfl, rfl, ⟨w, Below.refl _ _⟩, rfl, World.ownsRow_nil _ _ _ _⟩
  case round =>
    obtain ⟨k, hk, rfl, rfl, z, rfl, hown⟩ := hrel
    have hle := insTo_len l x k hk
    obtain ⟨⟨E, d⟩, hE⟩ : ∃ s, s = insTo l x k := ⟨_, rfl⟩
    rw [← hE] at hown hle ⊢
    have HE := Lib.hid hE
    clear hE
    have hle2 := hle.1
    clear hle
    simp only at hown hle2 ⊢
    have hrdB := Rd.own encI_len hown
    obtain ⟨B, capB, rfl, hcapB, _⟩ := hrdB.open_
    have HWB := Lib.hid hown
    clear hown hrdB
    by_cases hlt : k < l.length
    · obtain ⟨r, hr⟩ : ∃ el_, (l)[k]? = some el_ := ⟨_, List.getElem?_eq_getElem (by first | exact hlt | omega)⟩
      obtain ⟨bA, offA, rfl, hbA, hcA⟩ := HA.out (k) _ hr
      have r_0 : w.cell? ⟨bA, offA + k, none⟩ = some (.int .i64 r) := by have := hcA (k) _ hr 0 _ rfl; simpa using this
      have hbA2 : bA < w.heap.size + 1 := by omega
      have HAc := Lib.hid hcA
      have Hr := Lib.hid hr
      clear hr hcA
      cases d
      · go_wp2_with (first | (at_builtin; have hx := (hown').alloc (.cells #[.int .i64 r] 3); refine wpList_append_own _ rfl _ _ 88 rfl w.heap.size 3 i0 (.int .i64 0) 1 8 Try.underlying88 hi hz0 hz1 hz2 rfl (by decide) _ _ _ rfl hx ⟨_, 0, none⟩ 1 1 [.int .i64 r] rfl rfl (cell1_new _ _ _) (one1 _) (by unfold maxLen; omega) (by omega) (by repeat (first | with_reducible exact Nat.le_refl _ | assumption | with_reducible refine le_alloc ?_ _ | with_reducible refine le_drew ?_ | with_reducible refine Kin.le _ ?_ | assumption | omega | (simp only [World.size_alloc]; omega))) ?_; intro v' w1 hown' hgrow hnil; (obtain ⟨y, rfl⟩ : ∃ y : Kin w, y.1 = w1 := ⟨⟨w1, own_grown (base := w.heap.size) (by repeat (first | with_reducible exact Below.refl _ _ | with_reducible exact Nat.le_refl _ | with_reducible refine Kin.below _ ?_ | with_reducible refine Below.alloc ?_ ?_ _ | with_reducible refine Below.drew ?_ | with_reducible refine Kin.le _ ?_ | with_reducible refine le_alloc ?_ _ | with_reducible refine le_drew ?_ | with_reducible refine Below.setCell ?_ ?_ _ | with_reducible exact Nat.le_refl _ | (simp only [World.size_alloc]; omega) | (simp <;> omega))) hx hgrow (Nat.le_refl _) (by repeat (first | with_reducible exact Nat.le_refl _ | assumption | with_reducible refine le_alloc ?_ _ | with_reducible refine le_drew ?_ | with_reducible refine Kin.le _ ?_ | assumption | omega | (simp only [World.size_alloc]; omega)))⟩, rfl⟩); clear hgrow hnil hx) | (at_builtin; have hx := (HWB.out).alloc (.cells #[.int .i64 x] 3); refine wpList_append_own _ rfl _ _ 88 rfl w.heap.size 3 i0 (.int .i64 0) 1 8 Try.underlying88 hi hz0 hz1 hz2 rfl (by decide) _ _ _ rfl hx ⟨_, 0, none⟩ 1 1 [.int .i64 x] rfl rfl (cell1_new _ _ _) (one1 _) (by unfold maxLen; omega) (by omega) (by repeat (first | with_reducible exact Nat.le_refl _ | assumption | with_reducible refine le_alloc ?_ _ | with_reducible refine le_drew ?_ | with_reducible refine Kin.le _ ?_ | assumption | omega | (simp only [World.size_alloc]; omega))) ?_; intro v' w1 hown' hgrow hnil; (obtain ⟨y, rfl⟩ : ∃ y : Kin w, y.1 = w1 := ⟨⟨w1, own_grown (base := w.heap.size) (by repeat (first | with_reducible exact Below.refl _ _ | with_reducible exact Nat.le_refl _ | with_reducible refine Kin.below _ ?_ | with_reducible refine Below.alloc ?_ ?_ _ | with_reducible refine Below.drew ?_ | with_reducible refine Kin.le _ ?_ | with_reducible refine le_alloc ?_ _ | with_reducible refine le_drew ?_ | with_reducible refine Below.setCell ?_ ?_ _ | with_reducible exact Nat.le_refl _ | (simp only [World.size_alloc]; omega) | (simp <;> omega))) hx hgrow (Nat.le_refl _) (by repeat (first | with_reducible exact Nat.le_refl _ | assumption | with_reducible refine le_alloc ?_ _ | with_reducible refine le_drew ?_ | with_reducible refine Kin.le _ ?_ | assumption | omega | (simp only [World.size_alloc]; omega)))⟩, rfl⟩); clear hgrow hnil hx) | (at_builtin; have hx := (HWB.out).alloc (.cells #[.int .i64 r] 3); refine wpList_append_own _ rfl _ _ 88 rfl w.heap.size 3 i0 (.int .i64 0) 1 8 Try.underlying88 hi hz0 hz1 hz2 rfl (by decide) _ _ _ rfl hx ⟨_, 0, none⟩ 1 1 [.int .i64 r] rfl rfl (cell1_new _ _ _) (one1 _) (by unfold maxLen; omega) (by omega) (by repeat (first | with_reducible exact Nat.le_refl _ | assumption | with_reducible refine le_alloc ?_ _ | with_reducible refine le_drew ?_ | with_reducible refine Kin.le _ ?_ | assumption | omega | (simp only [World.size_alloc]; omega))) ?_; intro v' w1 hown' hgrow hnil; (obtain ⟨y, rfl⟩ : ∃ y : Kin w, y.1 = w1 := ⟨⟨w1, own_grown (base := w.heap.size) (by repeat (first | with_reducible exact Below.refl _ _ | with_reducible exact Nat.le_refl _ | with_reducible refine Kin.below _ ?_ | with_reducible refine Below.alloc ?_ ?_ _ | with_reducible refine Below.drew ?_ | with_reducible refine Kin.le _ ?_ | with_reducible refine le_alloc ?_ _ | with_reducible refine le_drew ?_ | with_reducible refine Below.setCell ?_ ?_ _ | with_reducible exact Nat.le_refl _ | (simp only [World.size_alloc]; omega) | (simp <;> omega))) hx hgrow (Nat.le_refl _) (by repeat (first | with_reducible exact Nat.le_refl _ | assumption | with_reducible refine le_alloc ?_ _ | with_reducible refine le_drew ?_ | with_reducible refine Kin.le _ ?_ | assumption | omega | (simp only [World.size_alloc]; omega)))⟩, rfl⟩); clear hgrow hnil hx))
        all_goals
          go_roundw
          case rel => exact ⟨k + 1, by omega, by go_num, by first | rw [insI_no HE.out Hr.out (by omega)] | rw [insI_lt HE.out Hr.out (by omega)] | rw [insI_eq HE.out Hr.out (by omega) (by omega)], y, rfl, by first | (rw [insI_no HE.out Hr.out (by omega)]; simpa [encI] using hown') | (rw [insI_lt HE.out Hr.out (by omega)]; simpa [encI] using hown') | (rw [insI_eq HE.out Hr.out (by omega) (by omega)]; simpa [encI] using hown')⟩
          case measure => simp [intOf]; omega
      · go_wp2_with (first | (at_builtin; have hx := (HWB.out).alloc (.cells #[.int .i64 r] 3); refine wpList_append_own _ rfl _ _ 88 rfl w.heap.size 3 i0 (.int .i64 0) 1 8 Try.underlying88 hi hz0 hz1 hz2 rfl (by decide) _ _ _ rfl hx ⟨_, 0, none⟩ 1 1 [.int .i64 r] rfl rfl (cell1_new _ _ _) (one1 _) (by unfold maxLen; omega) (by omega) (by repeat (first | with_reducible exact Nat.le_refl _ | assumption | with_reducible refine le_alloc ?_ _ | with_reducible refine le_drew ?_ | with_reducible refine Kin.le _ ?_ | assumption | omega | (simp only [World.size_alloc]; omega))) ?_; intro v' w1 hown' hgrow hnil; (obtain ⟨y, rfl⟩ : ∃ y : Kin w, y.1 = w1 := ⟨⟨w1, own_grown (base := w.heap.size) (by repeat (first | with_reducible exact Below.refl _ _ | with_reducible exact Nat.le_refl _ | with_reducible refine Kin.below _ ?_ | with_reducible refine Below.alloc ?_ ?_ _ | with_reducible refine Below.drew ?_ | with_reducible refine Kin.le _ ?_ | with_reducible refine le_alloc ?_ _ | with_reducible refine le_drew ?_ | with_reducible refine Below.setCell ?_ ?_ _ | with_reducible exact Nat.le_refl _ | (simp only [World.size_alloc]; omega) | (simp <;> omega))) hx hgrow (Nat.le_refl _) (by repeat (first | with_reducible exact Nat.le_refl _ | assumption | with_reducible refine le_alloc ?_ _ | with_reducible refine le_drew ?_ | with_reducible refine Kin.le _ ?_ | assumption | omega | (simp only [World.size_alloc]; omega)))⟩, rfl⟩); clear hgrow hnil hx))
        go_roundw
        case rel => exact ⟨k + 1, by omega, by go_num, by rw [insI_done HE.out Hr.out], y, rfl, by rw [insI_done HE.out Hr.out]; simpa [encI] using hown'⟩
        case measure => simp [intOf]; omega
    · have hk4 : k = l.length := by omega
      have HI := Lib.hid (ins_eq l x)
      rw [← hk4, ← HE.out] at HI
      simp only at HI
      clear hk4
      cases d
      · go_wp2_with (at_builtin; have hx := (HWB.out).alloc (.cells #[.int .i64 x] 3); refine wpList_append_own _ rfl _ _ 88 rfl w.heap.size 3 i0 (.int .i64 0) 1 8 Try.underlying88 hi hz0 hz1 hz2 rfl (by decide) _ _ _ rfl hx ⟨_, 0, none⟩ 1 1 [.int .i64 x] rfl rfl (cell1_new _ _ _) (one1 _) (by unfold maxLen; omega) (by omega) (by repeat (first | with_reducible exact Nat.le_refl _ | assumption | with_reducible refine le_alloc ?_ _ | with_reducible refine le_drew ?_ | with_reducible refine Kin.le _ ?_ | assumption | omega | (simp only [World.size_alloc]; omega))) ?_; intro v' w1 hown' hgrow hnil; (obtain ⟨y, rfl⟩ : ∃ y : Kin w, y.1 = w1 := ⟨⟨w1, own_grown (base := w.heap.size) (by repeat (first | with_reducible exact Below.refl _ _ | with_reducible exact Nat.le_refl _ | with_reducible refine Kin.below _ ?_ | with_reducible refine Below.alloc ?_ ?_ _ | with_reducible refine Below.drew ?_ | with_reducible refine Kin.le _ ?_ | with_reducible refine le_alloc ?_ _ | with_reducible refine le_drew ?_ | with_reducible refine Below.setCell ?_ ?_ _ | with_reducible exact Nat.le_refl _ | (simp only [World.size_alloc]; omega) | (simp <;> omega))) hx hgrow (Nat.le_refl _) (by repeat (first | with_reducible exact Nat.le_refl _ | assumption | with_reducible refine le_alloc ?_ _ | with_reducible refine le_drew ?_ | with_reducible refine Kin.le _ ?_ | assumption | omega | (simp only [World.size_alloc]; omega)))⟩, rfl⟩); clear hgrow hnil hx)
        go_ret
        refine ⟨⟨_, rfl, ?_⟩, (by repeat (first | with_reducible exact Below.refl _ _ | with_reducible exact Nat.le_refl _ | with_reducible refine Kin.below _ ?_ | with_reducible refine Below.alloc ?_ ?_ _ | with_reducible refine Below.drew ?_ | with_reducible refine Kin.le _ ?_ | with_reducible refine le_alloc ?_ _ | with_reducible refine le_drew ?_ | with_reducible refine Below.setCell ?_ ?_ _ | with_reducible exact Nat.le_refl _ | (simp only [World.size_alloc]; omega) | (simp <;> omega)))⟩
        rw [← HI.out]; simpa [encI] using hown'
      · go_wp2
        go_ret
        refine ⟨⟨_, rfl, ?_⟩, (by repeat (first | with_reducible exact Below.refl _ _ | with_reducible exact Nat.le_refl _ | with_reducible refine Kin.below _ ?_ | with_reducible refine Below.alloc ?_ ?_ _ | with_reducible refine Below.drew ?_ | with_reducible refine Kin.le _ ?_ | with_reducible refine le_alloc ?_ _ | with_reducible refine le_drew ?_ | with_reducible refine Below.setCell ?_ ?_ _ | with_reducible exact Nat.le_refl _ | (simp only [World.size_alloc]; omega) | (simp <;> omega)))⟩
        rw [← HI.out]; simpa using HWB.out
set_option maxHeartbeats 4000000 in
theorem in_any (v : Value) (l : List Run) (x : Int) (w : World) (h : Rd 2 encRun w v l) (hlen : l.length ≤ 1099511627776) :
    Calls Try.prog 110 #[v, .int .i64 x] w fun e w' => e = .returned (.bool (mem l x)) ∧ Below w.heap.size w w' := by
  obtain ⟨A, capA, rfl, hcapA, hopA⟩ := h.open_
  have HA := Lib.hid hopA
  have HLA := Lib.hid h
  clear hopA h
  go_enter Try.func110, Try.ntmps110
  go_wp2
  go_loopw [5] (fun i wr => ∃ k : Nat, k ≤ l.length ∧ i = .int .i64 k ∧ Hid (mem (l.take k) x = false) ∧ ∃ z : Kin w, z.1 = wr) (fun i _ => l.length - (intOf i).toNat)
  case atStart => exact ⟨0, Nat.zero_le _, rfl, rfl, ⟨w, Below.refl _ _⟩, rfl⟩
  case round =>
    obtain ⟨k, hk, rfl, hm, z, rfl⟩ := hrel
    by_cases hlt : k < l.length
    · obtain ⟨r, hr⟩ : ∃ el_, (l)[k]? = some el_ := ⟨_, List.getElem?_eq_getElem (by first | exact hlt | omega)⟩
      obtain ⟨bA, offA, rfl, hbA, hcA⟩ := HA.out (k) _ hr
      have r_0 : w.cell? ⟨bA, offA + k * 2, none⟩ = some (.int .i64 r.1) := by exact hcA (k) _ hr 0 _ rfl
      have r_1 : w.cell? ⟨bA, offA + k * 2 + 1, none⟩ = some (.int .i64 r.2) := by exact hcA (k) _ hr 1 _ rfl
      have hbA2 : bA < w.heap.size + 1 := by omega
      have HAc := Lib.hid hcA
      have Hr := Lib.hid hr
      clear hr hcA
      go_wp2
      all_goals first
        | (go_ret; exact ⟨ret_bool (mem_hit Hr.out (by omega) (by omega)).symm, (by repeat (first | with_reducible exact Below.refl _ _ | with_reducible exact Nat.le_refl _ | with_reducible refine Kin.below _ ?_ | with_reducible refine Below.alloc ?_ ?_ _ | with_reducible refine Below.drew ?_ | with_reducible refine Kin.le _ ?_ | with_reducible refine le_alloc ?_ _ | with_reducible refine le_drew ?_ | with_reducible refine Below.setCell ?_ ?_ _ | with_reducible exact Nat.le_refl _ | (simp only [World.size_alloc]; omega) | (simp <;> omega)))⟩)
        | (go_roundw
           case rel => exact ⟨k + 1, by omega, by go_num, mem_take_no Hr.out hm.out (by omega), z, rfl⟩
           case measure => simp [intOf]; omega)
    · go_wp2
      go_ret
      have : k = l.length := by omega
      exact ⟨ret_bool (by rw [← hm.out, this, List.take_length]), (by repeat (first | with_reducible exact Below.refl _ _ | with_reducible exact Nat.le_refl _ | with_reducible refine Kin.below _ ?_ | with_reducible refine Below.alloc ?_ ?_ _ | with_reducible refine Below.drew ?_ | with_reducible refine Kin.le _ ?_ | with_reducible refine le_alloc ?_ _ | with_reducible refine le_drew ?_ | with_reducible refine Below.setCell ?_ ?_ _ | with_reducible exact Nat.le_refl _ | (simp only [World.size_alloc]; omega) | (simp <;> omega)))⟩
theorem bstep_yes {b : List Int} {r : Run} (h : r.1 < r.2) : bstep b r = ins (ins b r.1) r.2 := if_pos h
theorem bstep_no {b : List Int} {r : Run} (h : r.2 ≤ r.1) : bstep b r = b := if_neg (by omega)
set_option maxHeartbeats 4000000 in
theorem bounds_any (v : Value) (l : List Run) (w : World) (h : Rd 2 encRun w v l) (hlen : l.length ≤ 274877906944) :
    Calls Try.prog 109 #[v] w fun e w' => (∃ u, e = .returned u ∧ Rd 1 encI w' u (bnds l)) ∧ Below w.heap.size w w' := by
  obtain ⟨A, capA, rfl, hcapA, hopA⟩ := h.open_
  have HA := Lib.hid hopA
  have HLA := Lib.hid h
  clear hopA h
  go_enter Try.func109, Try.ntmps109
  go_wp2
  go_loopw [3, 4] (fun o i wr => ∃ k : Nat, k ≤ l.length ∧ i = .int .i64 k ∧ ∃ z : Kin w, z.1 = wr ∧ Hid (Rd 1 encI z.1 o (bndsTo l k))) (fun _ i _ => l.length - (intOf i).toNat)
  case atStart => exact ⟨0, Nat.zero_le _, rfl, ⟨w, Below.refl _ _⟩, rfl, Rd.nil⟩
  case round =>
    obtain ⟨k, hk, rfl, z, rfl, HO⟩ := hrel
    have hl := bndsTo_len l k hk
    by_cases hlt : k < l.length
    · obtain ⟨r, hr⟩ : ∃ el_, (l)[k]? = some el_ := ⟨_, List.getElem?_eq_getElem (by first | exact hlt | omega)⟩
      obtain ⟨bA, offA, rfl, hbA, hcA⟩ := HA.out (k) _ hr
      have r_0 : w.cell? ⟨bA, offA + k * 2, none⟩ = some (.int .i64 r.1) := by exact hcA (k) _ hr 0 _ rfl
      have r_1 : w.cell? ⟨bA, offA + k * 2 + 1, none⟩ = some (.int .i64 r.2) := by exact hcA (k) _ hr 1 _ rfl
      have hbA2 : bA < w.heap.size + 1 := by omega
      have HAc := Lib.hid hcA
      have Hr := Lib.hid hr
      clear hr hcA
      have HS := Lib.hid (bndsTo_succ Hr.out)
      have hl2 := ins_len (bndsTo l k) r.1
      by_cases hrr : r.1 < r.2
      · go_wp2
        ((refine wp_region_kin0 (by kernel_rfl) (by kernel_rfl) ?_); (repeat' (first | go_big_quiet_step (fail) | ((refine wpQuiet_guard rfl rfl rfl rfl (fun hg => ?_) (fun hg => ?_)) <;> (fail_if_success (first | guard_hyp hg : true = true | guard_hyp hg : false = false)) <;> (try simp only [decide_eq_true_eq, decide_eq_false_iff_not] at hg) <;> simp only [Act.put, List.setIfInBounds_toArray, List.set_cons_zero, List.set_cons_succ]))); all_goals ((with_reducible refine wpQuiet_nil ?_); rintro _ ⟨zq, rfl⟩))
        go_wp2_with (first
          | (go_at_call 117; first | ((with_reducible refine (Kin.call _ (insert_any _ _ r.2 _ HU.out (by omega))).mono ?_); rintro e w' ⟨z, ⟨u, rfl, hu⟩, rfl⟩; (have HV := Lib.hid (Rd.own encI_len hu); clear hu)) | ((with_reducible refine (Kin.call0 (insert_any _ _ r.2 _ HU.out (by omega))).mono ?_); rintro e w' ⟨z, ⟨u, rfl, hu⟩, rfl⟩; (have HV := Lib.hid (Rd.own encI_len hu); clear hu)))
          | (go_at_call 117; first | ((with_reducible refine (Kin.call _ (insert_any _ _ r.1 _ (HO.out.below (by repeat (first | with_reducible exact Below.refl _ _ | with_reducible exact Nat.le_refl _ | with_reducible refine Kin.below _ ?_ | with_reducible refine Below.alloc ?_ ?_ _ | with_reducible refine Below.drew ?_ | with_reducible refine Kin.le _ ?_ | with_reducible refine le_alloc ?_ _ | with_reducible refine le_drew ?_ | with_reducible refine Below.setCell ?_ ?_ _ | with_reducible exact Nat.le_refl _ | (simp only [World.size_alloc]; omega) | (simp <;> omega)))) (by omega))).mono ?_); rintro e w' ⟨z, ⟨u, rfl, hu⟩, rfl⟩; (have HU := Lib.hid (Rd.own encI_len hu); clear hu)) | ((with_reducible refine (Kin.call0 (insert_any _ _ r.1 _ (HO.out.below (by repeat (first | with_reducible exact Below.refl _ _ | with_reducible exact Nat.le_refl _ | with_reducible refine Kin.below _ ?_ | with_reducible refine Below.alloc ?_ ?_ _ | with_reducible refine Below.drew ?_ | with_reducible refine Kin.le _ ?_ | with_reducible refine le_alloc ?_ _ | with_reducible refine le_drew ?_ | with_reducible refine Below.setCell ?_ ?_ _ | with_reducible exact Nat.le_refl _ | (simp only [World.size_alloc]; omega) | (simp <;> omega)))) (by omega))).mono ?_); rintro e w' ⟨z, ⟨u, rfl, hu⟩, rfl⟩; (have HU := Lib.hid (Rd.own encI_len hu); clear hu))))
        go_roundw
        case rel => exact ⟨k + 1, by omega, by go_num, ⟨_, (by repeat (first | with_reducible exact Below.refl _ _ | with_reducible exact Nat.le_refl _ | with_reducible refine Kin.below _ ?_ | with_reducible refine Below.alloc ?_ ?_ _ | with_reducible refine Below.drew ?_ | with_reducible refine Kin.le _ ?_ | with_reducible refine le_alloc ?_ _ | with_reducible refine le_drew ?_ | with_reducible refine Below.setCell ?_ ?_ _ | with_reducible exact Nat.le_refl _ | (simp only [World.size_alloc]; omega) | (simp <;> omega)))⟩, rfl, by rw [HS.out, bstep_yes hrr]; exact HV.out⟩
        case measure => simp [intOf]; omega
      · go_wp2
        ((refine wp_region_kin0 (by kernel_rfl) (by kernel_rfl) ?_); (repeat' (first | go_big_quiet_step (fail) | ((refine wpQuiet_guard rfl rfl rfl rfl (fun hg => ?_) (fun hg => ?_)) <;> (fail_if_success (first | guard_hyp hg : true = true | guard_hyp hg : false = false)) <;> (try simp only [decide_eq_true_eq, decide_eq_false_iff_not] at hg) <;> simp only [Act.put, List.setIfInBounds_toArray, List.set_cons_zero, List.set_cons_succ]))); all_goals ((with_reducible refine wpQuiet_nil ?_); rintro _ ⟨zq, rfl⟩))
        go_wp2
        go_roundw
        case rel => exact ⟨k + 1, by omega, by go_num, ⟨_, (by repeat (first | with_reducible exact Below.refl _ _ | with_reducible exact Nat.le_refl _ | with_reducible refine Kin.below _ ?_ | with_reducible refine Below.alloc ?_ ?_ _ | with_reducible refine Below.drew ?_ | with_reducible refine Kin.le _ ?_ | with_reducible refine le_alloc ?_ _ | with_reducible refine le_drew ?_ | with_reducible refine Below.setCell ?_ ?_ _ | with_reducible exact Nat.le_refl _ | (simp only [World.size_alloc]; omega) | (simp <;> omega)))⟩, rfl, by rw [HS.out, bstep_no (by omega)]; exact HO.out.below (by repeat (first | with_reducible exact Below.refl _ _ | with_reducible exact Nat.le_refl _ | with_reducible refine Kin.below _ ?_ | with_reducible refine Below.alloc ?_ ?_ _ | with_reducible refine Below.drew ?_ | with_reducible refine Kin.le _ ?_ | with_reducible refine le_alloc ?_ _ | with_reducible refine le_drew ?_ | with_reducible refine Below.setCell ?_ ?_ _ | with_reducible exact Nat.le_refl _ | (simp only [World.size_alloc]; omega) | (simp <;> omega)))⟩
        case measure => simp [intOf]; omega
    · go_wp2
      go_ret
      have : k = l.length := by omega
      exact ⟨⟨_, rfl, by rw [← bndsTo_all, ← this]; exact HO.out⟩, (by repeat (first | with_reducible exact Below.refl _ _ | with_reducible exact Nat.le_refl _ | with_reducible refine Kin.below _ ?_ | with_reducible refine Below.alloc ?_ ?_ _ | with_reducible refine Below.drew ?_ | with_reducible refine Kin.le _ ?_ | with_reducible refine le_alloc ?_ _ | with_reducible refine le_drew ?_ | with_reducible refine Below.setCell ?_ ?_ _ | with_reducible exact Nat.le_refl _ | (simp only [World.size_alloc]; omega) | (simp <;> omega)))⟩
set_option maxRecDepth 100000 in
set_option maxHeartbeats 4000000 in
theorem put_any (base : Nat) (v : Value) (l : List Run) (a b : Int) (w : World) (h : w.ownsRow base 60 2 v l.length (l.flatMap encRun)) (hb : base ≤ w.heap.size) (hlen : l.length ≤ 549755813888) :
    Calls Try.prog 111 #[v, .int .i64 a, .int .i64 b] w fun e w' => (∃ u, e = .returned u ∧ w'.ownsRow base 60 2 u (put l a b).length ((put l a b).flatMap encRun)) ∧ Below base w w' := by
  rcases List.eq_nil_or_concat l with rfl | ⟨E, q, hE⟩
  · have hrdB := Rd.own encRun_len h
    obtain ⟨B, capB, rfl, hcapB, _⟩ := hrdB.open_
    have HWB := Lib.hid h
    clear h hrdB
    simp only [List.length_nil] at HWB ⊢
    go_enter Try.func111, Try.ntmps111
    go_wp2_with (at_builtin; refine wpList_app _ rfl _ _ 56 rfl encRun_len (by decide) oneR base 60 (.agg #[.int .i64 0, .int .i64 0]) 16 infoRun rfl Try.underlying56 _ _ _ _ rfl (HWB.out.alloc _) _ _ _ rfl (rd_one w encRun_len _ (a, b) _ rfl) ?c1 (by decide) ?c2 ?_; (case c1 => (first | (simp only [List.length_append, List.length_cons, List.length_nil]; omega) | omega | (simp; omega))); (case c2 => exact (by repeat (first | with_reducible exact Nat.le_refl _ | assumption | with_reducible refine le_alloc ?_ _ | with_reducible refine le_drew ?_ | with_reducible refine Kin.le _ ?_ | assumption | omega | (simp only [World.size_alloc]; omega)))); intro v' w1 hown' hg hbel hat'; skip)
    go_ret
    exact ⟨⟨_, rfl, hown'⟩, ((Below.refl _ _).alloc hb _).trans hbel⟩
  · rw [List.concat_eq_append] at hE
    subst hE
    have HR := Lib.hid (Rd.own encRun_len h)
    rcases id h.2 with ⟨_, h0⟩ | ⟨g, cap1, cur, rfl, hbase, hgb, hn, hm, hs, ht⟩
    · simp at h0
    · have hg : g < w.heap.size := (Array.getElem?_eq_some_iff.1 hgb).1
      have g0 : w.cell? ⟨g, E.length * 2, none⟩ = some (.int .i64 q.1) := by rw [h.cellAt _ (by rw [List.length_append]; simp only [List.length_cons, List.length_nil]; omega)]; exact flat_get encRun_len _ E.length q (by simp) 0 _ rfl
      have g1 : w.cell? ⟨g, E.length * 2 + 1, none⟩ = some (.int .i64 q.2) := by rw [h.cellAt _ (by rw [List.length_append]; simp only [List.length_cons, List.length_nil]; omega)]; exact flat_get encRun_len _ E.length q (by simp) 1 _ rfl
      have HW := Lib.hid h
      clear h hgb hs ht
      obtain ⟨m, hm⟩ : ∃ m, m = E.length := ⟨_, rfl⟩
      have hl : (E ++ [q]).length = m + 1 := by simp [hm]
      rw [← hm] at g0 g1
      rw [hl] at HW hlen hn HR ⊢
      have Hm := Lib.hid hm
      have hm2 : E.length ≤ m := by omega
      clear hm hl
      by_cases hq : q.2 = a
      · have hq2 : (q.2 == a) = true := by simp [hq]
        have HE : Hid (Rd 2 encRun w (.slice (some ⟨g, 0, none⟩) m cap1) E) := by
          have := HR.out.take (m := m) (by omega)
          rw [Hm.out, List.take_left] at this
          rw [Hm.out]; exact this
        go_enter Try.func111, Try.ntmps111
        go_wp2_with (first | (at_builtin; refine wpList_app _ rfl _ _ 56 rfl encRun_len (by decide) oneR w.heap.size 60 (.agg #[.int .i64 0, .int .i64 0]) 16 infoRun rfl Try.underlying56 _ _ _ _ rfl (hown'.alloc _) _ _ _ rfl (rd_one _ encRun_len _ (q.1, b) _ rfl) ?c1 (by decide) ?c2 ?_; (case c1 => (first | (simp only [List.length_append, List.length_cons, List.length_nil]; omega) | omega | (simp; omega))); (case c2 => exact (by repeat (first | with_reducible exact Nat.le_refl _ | assumption | with_reducible refine le_alloc ?_ _ | with_reducible refine le_drew ?_ | with_reducible refine Kin.le _ ?_ | assumption | omega | (simp only [World.size_alloc]; omega)))); intro v' w1 hown' hg hbel hat'; (obtain ⟨y, rfl⟩ : ∃ y : Kin w, y.1 = w1 := ⟨⟨w1, Below.trans (by repeat (first | with_reducible exact Below.refl _ _ | with_reducible exact Nat.le_refl _ | with_reducible refine Kin.below _ ?_ | with_reducible refine Below.alloc ?_ ?_ _ | with_reducible refine Below.drew ?_ | with_reducible refine Kin.le _ ?_ | with_reducible refine le_alloc ?_ _ | with_reducible refine le_drew ?_ | with_reducible refine Below.setCell ?_ ?_ _ | with_reducible exact Nat.le_refl _ | (simp only [World.size_alloc]; omega) | (simp <;> omega))) hbel⟩, rfl⟩); clear hbel hg hat') | (at_builtin; refine wpList_app _ rfl _ _ 56 rfl encRun_len (by decide) oneR w.heap.size 60 (.agg #[.int .i64 0, .int .i64 0]) 16 infoRun rfl Try.underlying56 _ _ _ _ rfl (own_made w encRun_len w.heap.size _ [] #[] rfl (Nat.le_refl _) (by decide)) _ _ _ rfl (HE.out.below (by repeat (first | with_reducible exact Below.refl _ _ | with_reducible exact Nat.le_refl _ | with_reducible refine Kin.below _ ?_ | with_reducible refine Below.alloc ?_ ?_ _ | with_reducible refine Below.drew ?_ | with_reducible refine Kin.le _ ?_ | with_reducible refine le_alloc ?_ _ | with_reducible refine le_drew ?_ | with_reducible refine Below.setCell ?_ ?_ _ | with_reducible exact Nat.le_refl _ | (simp only [World.size_alloc]; omega) | (simp <;> omega)))) ?c1 (by decide) ?c2 ?_; (case c1 => (first | (simp only [List.length_append, List.length_cons, List.length_nil]; omega) | omega | (simp; omega))); (case c2 => exact (by repeat (first | with_reducible exact Nat.le_refl _ | assumption | with_reducible refine le_alloc ?_ _ | with_reducible refine le_drew ?_ | with_reducible refine Kin.le _ ?_ | assumption | omega | (simp only [World.size_alloc]; omega)))); intro v' w1 hown' hg hbel hat'; (obtain ⟨y, rfl⟩ : ∃ y : Kin w, y.1 = w1 := ⟨⟨w1, Below.trans (by repeat (first | with_reducible exact Below.refl _ _ | with_reducible exact Nat.le_refl _ | with_reducible refine Kin.below _ ?_ | with_reducible refine Below.alloc ?_ ?_ _ | with_reducible refine Below.drew ?_ | with_reducible refine Kin.le _ ?_ | with_reducible refine le_alloc ?_ _ | with_reducible refine le_drew ?_ | with_reducible refine Below.setCell ?_ ?_ _ | with_reducible exact Nat.le_refl _ | (simp only [World.size_alloc]; omega) | (simp <;> omega))) hbel⟩, rfl⟩); clear hbel hg hat'))
        go_ret
        refine ⟨⟨_, rfl, ?_⟩, Below.mono (by repeat (first | with_reducible exact Below.refl _ _ | with_reducible exact Nat.le_refl _ | with_reducible refine Kin.below _ ?_ | with_reducible refine Below.alloc ?_ ?_ _ | with_reducible refine Below.drew ?_ | with_reducible refine Kin.le _ ?_ | with_reducible refine le_alloc ?_ _ | with_reducible refine le_drew ?_ | with_reducible refine Below.setCell ?_ ?_ _ | with_reducible exact Nat.le_refl _ | (simp only [World.size_alloc]; omega) | (simp <;> omega))) hb⟩
        have e : put (E ++ [q]) a b = E ++ [(q.1, b)] := by rw [← hq, put_yes]
        rw [e]
        exact own_base (by simpa using hown') hb
      · have hq2 : (q.2 == a) = false := by simp [hq]
        go_enter Try.func111, Try.ntmps111
        go_wp2_with (at_builtin; refine wpList_app _ rfl _ _ 56 rfl encRun_len (by decide) oneR base 60 (.agg #[.int .i64 0, .int .i64 0]) 16 infoRun rfl Try.underlying56 _ _ _ _ rfl (HW.out.alloc _) _ _ _ rfl (rd_one w encRun_len _ (a, b) _ rfl) ?c1 (by decide) ?c2 ?_; (case c1 => (first | (simp only [List.length_append, List.length_cons, List.length_nil]; omega) | omega | (simp; omega))); (case c2 => exact (by repeat (first | with_reducible exact Nat.le_refl _ | assumption | with_reducible refine le_alloc ?_ _ | with_reducible refine le_drew ?_ | with_reducible refine Kin.le _ ?_ | assumption | omega | (simp only [World.size_alloc]; omega)))); intro v' w1 hown' hg hbel hat'; skip)
        go_ret
        refine ⟨⟨_, rfl, ?_⟩, ((Below.refl _ _).alloc hb _).trans hbel⟩
        rw [put_no hq]
        exact hown'
end Go.Proofs.Ytfoedkdmckhihaa

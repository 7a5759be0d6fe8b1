/- RunsAdjoint: Grow and Shrink are adjoint, so the law returns true. -/
import Derived.Test.YtoahfkblbhoddaaRunsLawC
import Derived.Test.YtoahfkblbhoddaaRunsMath3
namespace Go.Proofs.Ytoahfkblbhoddaa
set_option linter.unusedSimpArgs false
set_option linter.unusedVariables false
open Go.ChangeShapes Go.WideShapes Go.ChangeAt Go.RowKit Go.Joins Runs
attribute [local go_sem] Kin.cell Kin.frozen Kin.lt0 Kin.lt1 Kin.lt2 Kin.lt3 run_mkf
theorem normE_or (l : List Run) : normE l = 0 ∨ normE l = 8 := by
  unfold normE; split
  · exact .inl rfl
  · exact .inr rfl
theorem growE_or (l : List Run) (k : Int) : growE l k = 0 ∨ growE l k = 8 ∨ growE l k = 1 := by
  unfold growE; split
  · rcases normE_or (l.map (gr k)) with h | h
    · exact .inl h
    · exact .inr (.inl h)
  · exact .inr (.inr rfl)
theorem few_at {v : Value} {l : List Run} {w : World} (h : Rd 2 encRun w v l) (w' : World) (hb : Below w.heap.size w w') : Calls Try.prog 8 #[v] w' fun e w'' => (∃ u, e = .returned u ∧ Rd 2 encRun w'' u (l.take 40)) ∧ Below w'.heap.size w' w'' := few_any v l w' (h.below hb)
theorem sub_to {a b r : List Run} (h : setop (opf 0) a b = r) (h1 : a.length ≤ 17179869184) (h2 : b.length ≤ 17179869184) (v u : Value) (w : World) (hv : Rd 2 encRun w v a) (hu : Rd 2 encRun w u b) :
    Calls Try.prog 29 #[v, u] w fun e w' => (∃ A cap, e = .returned (.slice A r.length cap) ∧ Rd 2 encRun w' (.slice A r.length cap) r) ∧ Below w.heap.size w w' := by
  rw [← h]
  refine (subtract_any v u a b w hv hu h1 h2).mono fun e w' ⟨⟨x, he, hx⟩, hb⟩ => ⟨?_, hb⟩
  obtain ⟨A, cap, rfl, _, _⟩ := id hx
  exact ⟨A, cap, he, hx⟩
theorem shr_to {a r : List Run} {k : Int} (h : shrinkL a k = r) (h1 : a.length ≤ 68719476736) (v : Value) (w : World) (hv : Rd 2 encRun w v a) :
    Calls Try.prog 23 #[v, .int .i64 k] w fun e w' => (∃ u, e = .returned u ∧ Rd 2 encRun w' u r) ∧ Below w.heap.size w w' := by
  rw [← h]
  exact (shrink_any v a k w hv h1).mono fun e w' ⟨⟨x, he, hx⟩, hb⟩ => ⟨⟨x, he, Rd.own encRun_len hx⟩, hb⟩
theorem grow_to {a r : List Run} {k x : Int} (h : growL a k = r) (hx : growE a k = x) (h1 : a.length ≤ 68719476736) (v : Value) (w : World) (hv : Rd 2 encRun w v a) :
    Calls Try.prog 21 #[v, .int .i64 k] w fun e w' => (∃ u, e = .returned (.tuple #[u, .int .i64 x]) ∧ Rd 2 encRun w' u r) ∧ Below w.heap.size w w' := by
  rw [← h, ← hx]
  exact grow_any v a k w hv h1
set_option maxRecDepth 100000 in
set_option maxHeartbeats 16000000 in
theorem adjoint_walk (W : World) (v1 : Value) (h1 : IsRuns W v1) (v2 : Value) (h2 : IsRuns W v2) (x : Value) (hx : IsInt x) :
    Calls Try.prog 7 #[v1, v2, x] W fun e W' => e = .returned (.bool true) ∧ Below W.heap.size W W' := by
  obtain ⟨l1, h1⟩ := h1
  obtain ⟨l2, h2⟩ := h2
  obtain ⟨k, rfl, _⟩ := hx
  have Hf1 := Lib.hid (few_at h1)
  have Hf2 := Lib.hid (few_at h2)
  have t1 := List.length_take_le 40 l1
  have t2 := List.length_take_le 40 l2
  have n1 := normR_len (l1.take 40)
  have n2 := normR_len (l2.take 40)
  have va : valid (normR (l1.take 40)) = true := normR_valid
  have vb : valid (normR (l2.take 40)) = true := normR_valid
  have Hn1 := Lib.hid (fun v w hv => norm_any v (l1.take 40) w hv (by omega))
  have Hn2 := Lib.hid (fun v w hv => norm_any v (l2.take 40) w hv (by omega))
  have e1 := normE_or (l1.take 40)
  have e2 := normE_or (l2.take 40)
  have e3 := growE_or (normR (l1.take 40)) k
  generalize normR (l1.take 40) = a at *
  generalize normR (l2.take 40) = b at *
  generalize normE (l1.take 40) = x1 at *
  generalize normE (l2.take 40) = x2 at *
  generalize l1.take 40 = m1 at *
  generalize l2.take 40 = m2 at *
  obtain ⟨x3, hx3⟩ : ∃ x3, growE a k = x3 := ⟨_, rfl⟩
  obtain ⟨G, hG⟩ : ∃ G, growL a k = G := ⟨_, rfl⟩
  have bG := growL_len a k
  rw [hG] at bG
  have ba : a.length ≤ 40 := by omega
  have bb : b.length ≤ 40 := by omega
  have cG := Lib.hid (grow_to hG hx3 (by omega))
  rw [hx3] at e3
  by_cases hg : x1 = 0 ∧ x2 = 0 ∧ x3 = 0
  case neg =>
    have hg2 := Lib.hid hg
    clear hg va vb h1 h2 hG hx3
    rcases e1 with rfl | rfl <;> rcases e2 with rfl | rfl <;> rcases e3 with rfl | rfl | rfl
    · exact absurd ⟨rfl, rfl, rfl⟩ hg2.out
    all_goals
      go_enter Try.func7, Try.ntmps7
      go_wp2_with (first
        | (go_at_call 8; (with_reducible refine (Kin.call0 (Hf1.out _ (by repeat (first | with_reducible exact Below.refl _ _ | with_reducible exact Nat.le_refl _ | with_reducible refine Kin.below _ ?_ | with_reducible refine Below.alloc ?_ ?_ _ | with_reducible refine Below.drew ?_ | with_reducible refine Kin.le _ ?_ | with_reducible refine le_alloc ?_ _ | with_reducible refine le_drew ?_ | with_reducible refine Below.setCell ?_ ?_ _ | with_reducible exact Nat.le_refl _ | (simp only [World.size_alloc]; omega) | (simp <;> omega))))).mono ?_); rintro e w' ⟨z, ⟨u, rfl, hu⟩, rfl⟩; (have HU1 := Lib.hid hu; clear hu))
        | (go_at_call 9; (with_reducible refine (Kin.call0 (Hn1.out _ _ (HU1.out.below (by repeat (first | with_reducible exact Below.refl _ _ | with_reducible exact Nat.le_refl _ | with_reducible refine Kin.below _ ?_ | with_reducible refine Below.alloc ?_ ?_ _ | with_reducible refine Below.drew ?_ | with_reducible refine Kin.le _ ?_ | with_reducible refine le_alloc ?_ _ | with_reducible refine le_drew ?_ | with_reducible refine Below.setCell ?_ ?_ _ | with_reducible exact Nat.le_refl _ | (simp only [World.size_alloc]; omega) | (simp <;> omega)))))).mono ?_); rintro e w' ⟨z, ⟨u, rfl, hu⟩, rfl⟩; (have HA := Lib.hid hu; clear hu))
        | (go_at_call 8; (with_reducible refine (Kin.call0 (Hf2.out _ (by repeat (first | with_reducible exact Below.refl _ _ | with_reducible exact Nat.le_refl _ | with_reducible refine Kin.below _ ?_ | with_reducible refine Below.alloc ?_ ?_ _ | with_reducible refine Below.drew ?_ | with_reducible refine Kin.le _ ?_ | with_reducible refine le_alloc ?_ _ | with_reducible refine le_drew ?_ | with_reducible refine Below.setCell ?_ ?_ _ | with_reducible exact Nat.le_refl _ | (simp only [World.size_alloc]; omega) | (simp <;> omega))))).mono ?_); rintro e w' ⟨z, ⟨u, rfl, hu⟩, rfl⟩; (have HU2 := Lib.hid hu; clear hu))
        | (go_at_call 9; (with_reducible refine (Kin.call0 (Hn2.out _ _ (HU2.out.below (by repeat (first | with_reducible exact Below.refl _ _ | with_reducible exact Nat.le_refl _ | with_reducible refine Kin.below _ ?_ | with_reducible refine Below.alloc ?_ ?_ _ | with_reducible refine Below.drew ?_ | with_reducible refine Kin.le _ ?_ | with_reducible refine le_alloc ?_ _ | with_reducible refine le_drew ?_ | with_reducible refine Below.setCell ?_ ?_ _ | with_reducible exact Nat.le_refl _ | (simp only [World.size_alloc]; omega) | (simp <;> omega)))))).mono ?_); rintro e w' ⟨z, ⟨u, rfl, hu⟩, rfl⟩; (have HB := Lib.hid hu; clear hu))
        | (go_at_call 21; (with_reducible refine (Kin.call0 (cG.out _ _ (HA.out.below (by repeat (first | with_reducible exact Below.refl _ _ | with_reducible exact Nat.le_refl _ | with_reducible refine Kin.below _ ?_ | with_reducible refine Below.alloc ?_ ?_ _ | with_reducible refine Below.drew ?_ | with_reducible refine Kin.le _ ?_ | with_reducible refine le_alloc ?_ _ | with_reducible refine le_drew ?_ | with_reducible refine Below.setCell ?_ ?_ _ | with_reducible exact Nat.le_refl _ | (simp only [World.size_alloc]; omega) | (simp <;> omega)))))).mono ?_); rintro e w' ⟨z, ⟨u, rfl, hu⟩, rfl⟩; (have HG := Lib.hid hu; clear hu))
        | (go_at_call 18; (with_reducible refine (Kin.call0 (awake_any _)).mono ?_); rintro e w' ⟨z, rfl, rfl⟩))
      go_ret
      exact ⟨rfl, (by repeat (first | with_reducible exact Below.refl _ _ | with_reducible exact Nat.le_refl _ | with_reducible refine Kin.below _ ?_ | with_reducible refine Below.alloc ?_ ?_ _ | with_reducible refine Below.drew ?_ | with_reducible refine Kin.le _ ?_ | with_reducible refine le_alloc ?_ _ | with_reducible refine le_drew ?_ | with_reducible refine Below.setCell ?_ ?_ _ | with_reducible exact Nat.le_refl _ | (simp only [World.size_alloc]; omega) | (simp <;> omega)))⟩
  case pos =>
  obtain ⟨rfl, rfl, rfl⟩ := hg
  obtain ⟨_, hk1, hk2, _⟩ := grow_ok hx3
  obtain ⟨D1, hD1⟩ : ∃ r, setop (opf 0) G b = r := ⟨_, rfl⟩
  obtain ⟨S1, hS1⟩ : ∃ r, shrinkL b k = r := ⟨_, rfl⟩
  obtain ⟨D2, hD2⟩ : ∃ r, setop (opf 0) a S1 = r := ⟨_, rfl⟩
  obtain ⟨S2, hS2⟩ : ∃ r, shrinkL G k = r := ⟨_, rfl⟩
  obtain ⟨D3, hD3⟩ : ∃ r, setop (opf 0) a S2 = r := ⟨_, rfl⟩
  obtain ⟨O, hO⟩ : ∃ r, growL S1 k = r := ⟨_, rfl⟩
  obtain ⟨D4, hD4⟩ : ∃ r, setop (opf 0) O b = r := ⟨_, rfl⟩
  have bS1 := shrinkL_len b k
  have bS2 := shrinkL_len G k
  have bO := growL_len S1 k
  rw [hS1] at bS1
  rw [hS2] at bS2
  rw [hO] at bO
  have cD1 := Lib.hid (sub_to hD1 (by omega) (by omega))
  have cS1 := Lib.hid (shr_to hS1 (by omega))
  have cD2 := Lib.hid (sub_to hD2 (by omega) (by omega))
  have cS2 := Lib.hid (shr_to hS2 (by omega))
  have cD3 := Lib.hid (sub_to hD3 (by omega) (by omega))
  have hx4 : growE S1 k = 0 := by rw [← hS1]; exact open_ok vb hk1 hk2
  have cO := Lib.hid (grow_to hO hx4 (by omega))
  have cD4 := Lib.hid (sub_to hD4 (by omega) (by omega))
  have adj : D1.length = 0 ↔ D2.length = 0 := by
    have := adjoint vb hx3
    rwa [hG, hD1, hS1, hD2] at this
  have z3 : D3.length = 0 := by
    have := adjoint_in hx3
    rwa [hG, hS2, hD3] at this
  have z4 : D4.length = 0 := by
    have := open_in vb hk1 hk2
    rwa [hS1, hO, hD4] at this
  obtain ⟨d, hd⟩ : ∃ d, (((D1.length : Nat) : Int) == 0) = d := ⟨_, rfl⟩
  have hd2 : (((D2.length : Nat) : Int) == 0) = d := by
    rw [← hd, Bool.eq_iff_iff]
    simp only [beq_iff_eq]
    omega
  have hd3 : (((D3.length : Nat) : Int) != 0) = false := by simp [z3]
  have hd4 : (((D4.length : Nat) : Int) == 0) = true := by simp [z4]
  have z3' : D3.length ≤ 0 := by omega
  have z4' : D4.length ≤ 0 := by omega
  clear adj z3 z4 hx3 hx4 hD1 hS1 hD2 hS2 hD3 hO hD4 hG va vb h1 h2 e1 e2 e3
  go_enter Try.func7, Try.ntmps7
  go_wp2_with (first
    | (go_at_call 8; (with_reducible refine (Kin.call0 (Hf1.out _ (by repeat (first | with_reducible exact Below.refl _ _ | with_reducible exact Nat.le_refl _ | with_reducible refine Kin.below _ ?_ | with_reducible refine Below.alloc ?_ ?_ _ | with_reducible refine Below.drew ?_ | with_reducible refine Kin.le _ ?_ | with_reducible refine le_alloc ?_ _ | with_reducible refine le_drew ?_ | with_reducible refine Below.setCell ?_ ?_ _ | with_reducible exact Nat.le_refl _ | (simp only [World.size_alloc]; omega) | (simp <;> omega))))).mono ?_); rintro e w' ⟨z, ⟨u, rfl, hu⟩, rfl⟩; (have HU1 := Lib.hid hu; clear hu))
    | (go_at_call 9; (with_reducible refine (Kin.call0 (Hn1.out _ _ (HU1.out.below (by repeat (first | with_reducible exact Below.refl _ _ | with_reducible exact Nat.le_refl _ | with_reducible refine Kin.below _ ?_ | with_reducible refine Below.alloc ?_ ?_ _ | with_reducible refine Below.drew ?_ | with_reducible refine Kin.le _ ?_ | with_reducible refine le_alloc ?_ _ | with_reducible refine le_drew ?_ | with_reducible refine Below.setCell ?_ ?_ _ | with_reducible exact Nat.le_refl _ | (simp only [World.size_alloc]; omega) | (simp <;> omega)))))).mono ?_); rintro e w' ⟨z, ⟨u, rfl, hu⟩, rfl⟩; (have HA := Lib.hid hu; clear hu))
    | (go_at_call 8; (with_reducible refine (Kin.call0 (Hf2.out _ (by repeat (first | with_reducible exact Below.refl _ _ | with_reducible exact Nat.le_refl _ | with_reducible refine Kin.below _ ?_ | with_reducible refine Below.alloc ?_ ?_ _ | with_reducible refine Below.drew ?_ | with_reducible refine Kin.le _ ?_ | with_reducible refine le_alloc ?_ _ | with_reducible refine le_drew ?_ | with_reducible refine Below.setCell ?_ ?_ _ | with_reducible exact Nat.le_refl _ | (simp only [World.size_alloc]; omega) | (simp <;> omega))))).mono ?_); rintro e w' ⟨z, ⟨u, rfl, hu⟩, rfl⟩; (have HU2 := Lib.hid hu; clear hu))
    | (go_at_call 9; (with_reducible refine (Kin.call0 (Hn2.out _ _ (HU2.out.below (by repeat (first | with_reducible exact Below.refl _ _ | with_reducible exact Nat.le_refl _ | with_reducible refine Kin.below _ ?_ | with_reducible refine Below.alloc ?_ ?_ _ | with_reducible refine Below.drew ?_ | with_reducible refine Kin.le _ ?_ | with_reducible refine le_alloc ?_ _ | with_reducible refine le_drew ?_ | with_reducible refine Below.setCell ?_ ?_ _ | with_reducible exact Nat.le_refl _ | (simp only [World.size_alloc]; omega) | (simp <;> omega)))))).mono ?_); rintro e w' ⟨z, ⟨u, rfl, hu⟩, rfl⟩; (have HB := Lib.hid hu; clear hu))
    | (go_at_call 21; (with_reducible refine (Kin.call0 (cG.out _ _ (HA.out.below (by repeat (first | with_reducible exact Below.refl _ _ | with_reducible exact Nat.le_refl _ | with_reducible refine Kin.below _ ?_ | with_reducible refine Below.alloc ?_ ?_ _ | with_reducible refine Below.drew ?_ | with_reducible refine Kin.le _ ?_ | with_reducible refine le_alloc ?_ _ | with_reducible refine le_drew ?_ | with_reducible refine Below.setCell ?_ ?_ _ | with_reducible exact Nat.le_refl _ | (simp only [World.size_alloc]; omega) | (simp <;> omega)))))).mono ?_); rintro e w' ⟨z, ⟨u, rfl, hu⟩, rfl⟩; (have HG := Lib.hid hu; clear hu))
    | (go_at_call 29; (with_reducible refine (Kin.call0 (cD1.out _ _ _ (HG.out.below (by repeat (first | with_reducible exact Below.refl _ _ | with_reducible exact Nat.le_refl _ | with_reducible refine Kin.below _ ?_ | with_reducible refine Below.alloc ?_ ?_ _ | with_reducible refine Below.drew ?_ | with_reducible refine Kin.le _ ?_ | with_reducible refine le_alloc ?_ _ | with_reducible refine le_drew ?_ | with_reducible refine Below.setCell ?_ ?_ _ | with_reducible exact Nat.le_refl _ | (simp only [World.size_alloc]; omega) | (simp <;> omega)))) (HB.out.below (by repeat (first | with_reducible exact Below.refl _ _ | with_reducible exact Nat.le_refl _ | with_reducible refine Kin.below _ ?_ | with_reducible refine Below.alloc ?_ ?_ _ | with_reducible refine Below.drew ?_ | with_reducible refine Kin.le _ ?_ | with_reducible refine le_alloc ?_ _ | with_reducible refine le_drew ?_ | with_reducible refine Below.setCell ?_ ?_ _ | with_reducible exact Nat.le_refl _ | (simp only [World.size_alloc]; omega) | (simp <;> omega)))))).mono ?_); rintro e w' ⟨z, ⟨A1, p1, rfl, hu⟩, rfl⟩; clear hu))
  go_wp2_with (first
    | (go_at_call 23; (with_reducible refine (Kin.call0 (cS1.out _ _ (HB.out.below (by repeat (first | with_reducible exact Below.refl _ _ | with_reducible exact Nat.le_refl _ | with_reducible refine Kin.below _ ?_ | with_reducible refine Below.alloc ?_ ?_ _ | with_reducible refine Below.drew ?_ | with_reducible refine Kin.le _ ?_ | with_reducible refine le_alloc ?_ _ | with_reducible refine le_drew ?_ | with_reducible refine Below.setCell ?_ ?_ _ | with_reducible exact Nat.le_refl _ | (simp only [World.size_alloc]; omega) | (simp <;> omega)))))).mono ?_); rintro e w' ⟨z, ⟨u, rfl, hu⟩, rfl⟩; (have HS1 := Lib.hid hu; clear hu))
    | (go_at_call 29; (with_reducible refine (Kin.call0 (cD2.out _ _ _ (HA.out.below (by repeat (first | with_reducible exact Below.refl _ _ | with_reducible exact Nat.le_refl _ | with_reducible refine Kin.below _ ?_ | with_reducible refine Below.alloc ?_ ?_ _ | with_reducible refine Below.drew ?_ | with_reducible refine Kin.le _ ?_ | with_reducible refine le_alloc ?_ _ | with_reducible refine le_drew ?_ | with_reducible refine Below.setCell ?_ ?_ _ | with_reducible exact Nat.le_refl _ | (simp only [World.size_alloc]; omega) | (simp <;> omega)))) (HS1.out.below (by repeat (first | with_reducible exact Below.refl _ _ | with_reducible exact Nat.le_refl _ | with_reducible refine Kin.below _ ?_ | with_reducible refine Below.alloc ?_ ?_ _ | with_reducible refine Below.drew ?_ | with_reducible refine Kin.le _ ?_ | with_reducible refine le_alloc ?_ _ | with_reducible refine le_drew ?_ | with_reducible refine Below.setCell ?_ ?_ _ | with_reducible exact Nat.le_refl _ | (simp only [World.size_alloc]; omega) | (simp <;> omega)))))).mono ?_); rintro e w' ⟨z, ⟨A1, p1, rfl, hu⟩, rfl⟩; clear hu)
    | (go_at_call 23; (with_reducible refine (Kin.call0 (cS2.out _ _ (HG.out.below (by repeat (first | with_reducible exact Below.refl _ _ | with_reducible exact Nat.le_refl _ | with_reducible refine Kin.below _ ?_ | with_reducible refine Below.alloc ?_ ?_ _ | with_reducible refine Below.drew ?_ | with_reducible refine Kin.le _ ?_ | with_reducible refine le_alloc ?_ _ | with_reducible refine le_drew ?_ | with_reducible refine Below.setCell ?_ ?_ _ | with_reducible exact Nat.le_refl _ | (simp only [World.size_alloc]; omega) | (simp <;> omega)))))).mono ?_); rintro e w' ⟨z, ⟨u, rfl, hu⟩, rfl⟩; (have HS2 := Lib.hid hu; clear hu))
    | (go_at_call 29; (with_reducible refine (Kin.call0 (cD3.out _ _ _ (HA.out.below (by repeat (first | with_reducible exact Below.refl _ _ | with_reducible exact Nat.le_refl _ | with_reducible refine Kin.below _ ?_ | with_reducible refine Below.alloc ?_ ?_ _ | with_reducible refine Below.drew ?_ | with_reducible refine Kin.le _ ?_ | with_reducible refine le_alloc ?_ _ | with_reducible refine le_drew ?_ | with_reducible refine Below.setCell ?_ ?_ _ | with_reducible exact Nat.le_refl _ | (simp only [World.size_alloc]; omega) | (simp <;> omega)))) (HS2.out.below (by repeat (first | with_reducible exact Below.refl _ _ | with_reducible exact Nat.le_refl _ | with_reducible refine Kin.below _ ?_ | with_reducible refine Below.alloc ?_ ?_ _ | with_reducible refine Below.drew ?_ | with_reducible refine Kin.le _ ?_ | with_reducible refine le_alloc ?_ _ | with_reducible refine le_drew ?_ | with_reducible refine Below.setCell ?_ ?_ _ | with_reducible exact Nat.le_refl _ | (simp only [World.size_alloc]; omega) | (simp <;> omega)))))).mono ?_); rintro e w' ⟨z, ⟨A1, p1, rfl, hu⟩, rfl⟩; clear hu))
  all_goals go_wp2_with (first
    | (go_at_call 21; (with_reducible refine (Kin.call0 (cO.out _ _ (HS1.out.below (by repeat (first | with_reducible exact Below.refl _ _ | with_reducible exact Nat.le_refl _ | with_reducible refine Kin.below _ ?_ | with_reducible refine Below.alloc ?_ ?_ _ | with_reducible refine Below.drew ?_ | with_reducible refine Kin.le _ ?_ | with_reducible refine le_alloc ?_ _ | with_reducible refine le_drew ?_ | with_reducible refine Below.setCell ?_ ?_ _ | with_reducible exact Nat.le_refl _ | (simp only [World.size_alloc]; omega) | (simp <;> omega)))))).mono ?_); rintro e w' ⟨z, ⟨u, rfl, hu⟩, rfl⟩; (have HO := Lib.hid hu; clear hu))
    | (go_at_call 21; (with_reducible refine (Kin.call0 (cO.out _ _ (HT1.out.below (by repeat (first | with_reducible exact Below.refl _ _ | with_reducible exact Nat.le_refl _ | with_reducible refine Kin.below _ ?_ | with_reducible refine Below.alloc ?_ ?_ _ | with_reducible refine Below.drew ?_ | with_reducible refine Kin.le _ ?_ | with_reducible refine le_alloc ?_ _ | with_reducible refine le_drew ?_ | with_reducible refine Below.setCell ?_ ?_ _ | with_reducible exact Nat.le_refl _ | (simp only [World.size_alloc]; omega) | (simp <;> omega)))))).mono ?_); rintro e w' ⟨z, ⟨u, rfl, hu⟩, rfl⟩; (have HO := Lib.hid hu; clear hu))
    | (go_at_call 23; (with_reducible refine (Kin.call0 (cS1.out _ _ (HB.out.below (by repeat (first | with_reducible exact Below.refl _ _ | with_reducible exact Nat.le_refl _ | with_reducible refine Kin.below _ ?_ | with_reducible refine Below.alloc ?_ ?_ _ | with_reducible refine Below.drew ?_ | with_reducible refine Kin.le _ ?_ | with_reducible refine le_alloc ?_ _ | with_reducible refine le_drew ?_ | with_reducible refine Below.setCell ?_ ?_ _ | with_reducible exact Nat.le_refl _ | (simp only [World.size_alloc]; omega) | (simp <;> omega)))))).mono ?_); rintro e w' ⟨z, ⟨u, rfl, hu⟩, rfl⟩; (have HT1 := Lib.hid hu; clear hu))
    | (go_at_call 29; (with_reducible refine (Kin.call0 (cD4.out _ _ _ (HO.out.below (by repeat (first | with_reducible exact Below.refl _ _ | with_reducible exact Nat.le_refl _ | with_reducible refine Kin.below _ ?_ | with_reducible refine Below.alloc ?_ ?_ _ | with_reducible refine Below.drew ?_ | with_reducible refine Kin.le _ ?_ | with_reducible refine le_alloc ?_ _ | with_reducible refine le_drew ?_ | with_reducible refine Below.setCell ?_ ?_ _ | with_reducible exact Nat.le_refl _ | (simp only [World.size_alloc]; omega) | (simp <;> omega)))) (HB.out.below (by repeat (first | with_reducible exact Below.refl _ _ | with_reducible exact Nat.le_refl _ | with_reducible refine Kin.below _ ?_ | with_reducible refine Below.alloc ?_ ?_ _ | with_reducible refine Below.drew ?_ | with_reducible refine Kin.le _ ?_ | with_reducible refine le_alloc ?_ _ | with_reducible refine le_drew ?_ | with_reducible refine Below.setCell ?_ ?_ _ | with_reducible exact Nat.le_refl _ | (simp only [World.size_alloc]; omega) | (simp <;> omega)))))).mono ?_); rintro e w' ⟨z, ⟨A1, p1, rfl, hu⟩, rfl⟩; clear hu)
    | (go_at_call 18; (with_reducible refine (Kin.call0 (awake_any _)).mono ?_); rintro e w' ⟨z, rfl, rfl⟩))
  all_goals first
    | (go_ret; exact ⟨rfl, (by repeat (first | with_reducible exact Below.refl _ _ | with_reducible exact Nat.le_refl _ | with_reducible refine Kin.below _ ?_ | with_reducible refine Below.alloc ?_ ?_ _ | with_reducible refine Below.drew ?_ | with_reducible refine Kin.le _ ?_ | with_reducible refine le_alloc ?_ _ | with_reducible refine le_drew ?_ | with_reducible refine Below.setCell ?_ ?_ _ | with_reducible exact Nat.le_refl _ | (simp only [World.size_alloc]; omega) | (simp <;> omega)))⟩)
set_option maxRecDepth 100000 in
theorem runsAdjoint_lifted (os : Os) (started : os.Started) (H : Type) (enc : TypeId × Value → H) :
    ReturnsInHanded {} Try.checked os 7 .any (Rows.runsAdjointSpec.pre6 enc Try.prog Try.f7 Rows.runsAdjointRow.domain false) (Rows.runsAdjointSpec.post enc Try.prog Try.f7 false true false false) := by
  refine returnsInHanded_of_change (C := Try.checked) own started (by kernel_rfl) Try.func7
    (ChangeSpec.witness6 (enc := enc) (C := Try.checked) false ⟨#[], #[.slice none 0 0, .slice none 0 0, .int .i64 0], []⟩ 8 (by kernel_rfl) (by kernel_rfl) (by kernel_rfl) (by kernel_rfl)) ?_
  intro W base args ds gs before hval0 hW hcnd _
  have hval : ∀ (j : Nat) t v, Try.f7.params[j]? = some t → args[j]? = some v → Value.okWide Try.prog W .any base t v := hval0
  have hW' := hW
  obtain ⟨p, q, hA0, hV, rfl, hfz, hnd⟩ := hW
  have hA : DataW.TrodAll enc Try.prog W 0 (fun _ => true) true Try.f7.params.toList args.toList ds p := hA0
  rw [Try.params7] at hA hval
  have hAA := hA
  obtain ⟨v0, vs0, d0, ds0, p0, q0, hargs, rfl, rfl, h0, r0⟩ := trodAll_cons hA
  obtain ⟨v1, vs1, d1, ds1, p1, q1, rfl, rfl, rfl, h1, r1⟩ := trodAll_cons r0
  obtain ⟨v2, vs2, d2, ds2, p2, q2, rfl, rfl, rfl, h2, r2⟩ := trodAll_cons r1
  obtain ⟨rfl, rfl, rfl⟩ := trodAll_nil r2
  obtain rfl : args = #[v0, v1, v2] := by cases args; simp_all
  obtain ⟨rfl, rfl⟩ := trodVars_none hV
  have o0 := open_runs (hval 0 22 v0 rfl rfl) h0
  have o1 := open_runs (hval 1 22 v1 rfl rfl) h1
  have o2 := open_i64 (hval 2 3 v2 rfl rfl) h2
  have hlt : ∀ x ∈ p0 ++ (p1 ++ (p2 ++ [])), x.block < W.heap.size := fun x hx => hW'.lt x (by simpa using hx)
  refine (adjoint_walk W _ o0 _ o1 _ o2).mono fun e W' ⟨he, bel⟩ => ?_
  subst he
  exact ⟨_, rfl, _, _, _, [], _, [], hW', trodAll_mk1 (shut_bool Try.underlying4 _), below_trodAll laidOut bel _ _ _ _ (by
    intro t ht
    have hcl : ([22, 22, 3] : List TypeId).all (fun t => Try.prog.readableRec t && decide (t < Try.prog.types.size)) = true := by kernel_rfl
    have := List.all_eq_true.1 hcl t ht
    simpa using this) hlt hAA, rfl, bel.frame _, fun h => by cases h⟩
/-- RunsAdjoint: for every input the call returns true, and the arguments read behind it as before. No condition. -/
theorem runsAdjoint_holds : Rows.RunsAdjointSaid :=
  OpenClaim.holds_of_wide 7 Try.f7 rfl rfl rfl rfl rfl rfl rfl ⟨rfl, rfl, rfl, rfl, rfl⟩ rfl rfl rfl rfl rfl (by kernel_rfl) Try.func7 (by kernel_rfl)
    (of_decide_eq_true (by kernel_rfl)) (by unfold Func.isWrapper; rw [if_neg (of_decide_eq_false (by kernel_rfl))]; exact ⟨rfl, rfl⟩)
    (fun os started H enc _ => runsAdjoint_lifted os started H enc)

end Go.Proofs.Ytoahfkblbhoddaa

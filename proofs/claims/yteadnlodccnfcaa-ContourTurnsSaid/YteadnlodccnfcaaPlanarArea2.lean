/- What Area2 of the reference returns, for all lists. -/
import Derived.Test.YteadnlodccnfcaaPlanarArea
namespace Go.Proofs.Yteadnlodccnfcaa
set_option linter.unusedSimpArgs false
set_option linter.unusedVariables false
open Go.RowKit Planar
attribute [local go_sem] Kin.cell Kin.frozen
set_option maxHeartbeats 1000000 in
theorem area_ref (v : Value) (l : List Pt) (w : World) (h : Rd 2 encPt w v l) (hlen : l.length ≤ 1099511627776) :
    Calls Try.prog 33 #[v] w fun e w' => e = .returned (.int .i64 (area2 l)) ∧ Below w.heap.size w w' := by
  obtain ⟨A, cap, rfl, hcap, hopen⟩ := h.open_
  by_cases hbig : 8192 < l.length
  · clear hopen h
    go_enter Try.func33, Try.ntmps33
    go_wp2
    go_ret
    exact ⟨ret_int (by simp [area2, hbig]), (by repeat (first | with_reducible (first | exact blA | exact blB | refine blC _ ?_ | refine blD ?_ ?_ _ | refine blE ?_ | refine blF _ ?_ | refine blG ?_ _ | refine blH ?_ | refine blI ?_ ?_ _) | (simp only [World.size_alloc]; omega) | (simp <;> omega)))⟩
  have Hopen : Hid (∀ (i : Nat) (x : Pt), l[i]? = some x → ∃ b off, A = some ⟨b, off, none⟩ ∧ b < w.heap.size ∧
    ∀ (i : Nat) (x : Pt), l[i]? = some x → ∀ (j : Nat) (u : Value), (encPt x)[j]? = some u → w.cell? ⟨b, off + i * 2 + j, none⟩ = some u) := hopen
  clear hopen h
  have hbig' : (l.length : Int) ≤ 8192 := by omega
  go_enter Try.func33, Try.ntmps33
  go_wp2
  go_loopw [3, 4] (fun s i wr => ∃ k : Nat, k ≤ l.length ∧ i = .int .i64 k ∧ (∃ x : Int, s = .int .i64 x ∧ Hid (allVld l = true → x = areaTo l k)) ∧ Hid (∀ i p, i < k → l[i]? = some p → vld p = true) ∧ ∃ z : Kin w, z.1 = wr) (fun _ i _ => l.length - (intOf i).toNat)
  case atStart => exact ⟨0, Nat.zero_le _, rfl, ⟨0, rfl, fun _ => rfl⟩, fun i p h => absurd h (by omega), ⟨w, Below.refl _ _⟩, rfl⟩
  case round =>
    obtain ⟨k, hk, rfl, ⟨x, rfl, hx⟩, hval, z, rfl⟩ := hrel
    by_cases hlt : k < l.length
    · obtain ⟨p, hp⟩ : ∃ p, l[k]? = some p := ⟨_, List.getElem?_eq_getElem hlt⟩
      obtain ⟨q, hq⟩ : ∃ q, l[(k + 1) % l.length]? = some q := ⟨_, List.getElem?_eq_getElem (Nat.mod_lt _ (by omega))⟩
      obtain ⟨b, off, rfl, hb, hcell⟩ := Hopen.out k p hp
      have hb' := z.lt hb
      have hb1 : b < z.1.heap.size + 1 := by omega
      have hb2 : b < z.1.heap.size + 1 + 1 := by omega
      have hm0 : 0 ≤ ((k : Int) + 1) % (l.length : Int) := Int.emod_nonneg _ (by omega)
      have hm2 : ((k : Int) + 1) % (l.length : Int) < (l.length : Int) := Int.emod_lt_of_pos _ (by omega)
      have hm1 : (k + 1) % l.length < l.length := Nat.mod_lt _ (by omega)
      have c0 : z.1.cell? ⟨b, off + k * 2, none⟩ = some (.int .i64 p.1) := by rw [z.cell hb]; exact hcell k p hp 0 _ rfl
      have c1 : z.1.cell? ⟨b, off + k * 2 + 1, none⟩ = some (.int .i64 p.2) := by rw [z.cell hb]; exact hcell k p hp 1 _ rfl
      have d0 : z.1.cell? ⟨b, off + (k + 1) % l.length * 2, none⟩ = some (.int .i64 q.1) := by rw [z.cell hb]; exact hcell _ q hq 0 _ rfl
      have d1 : z.1.cell? ⟨b, off + (k + 1) % l.length * 2 + 1, none⟩ = some (.int .i64 q.2) := by rw [z.cell hb]; exact hcell _ q hq 1 _ rfl
      have HP : Hid (l[k]? = some p) := hp
      have HQ : Hid (l[(k + 1) % l.length]? = some q) := hq
      clear hp hq hcell Hopen
      go_wp2_with fail
      go_region
      all_goals go_wp2_with (go_at_call 29; first | ((with_reducible refine (Kin.call _ (valid_ref _ _)).mono ?_); rintro e w' ⟨z, rfl, rfl⟩) | ((with_reducible refine (Kin.call0 (valid_ref _ _)).mono ?_); rintro e w' ⟨z, rfl, rfl⟩))
      all_goals first
        | (go_ret
           have hv : vld p = false := by simpa using ‹(!vld p) = true›
           exact ⟨ret_int (by simp [area2, allVld_no HP.out hv]), (by repeat (first | with_reducible (first | exact blA | exact blB | refine blC _ ?_ | refine blD ?_ ?_ _ | refine blE ?_ | refine blF _ ?_ | refine blG ?_ _ | refine blH ?_ | refine blI ?_ ?_ _) | (simp only [World.size_alloc]; omega) | (simp <;> omega)))⟩)
        | (have hv : vld p = true := by simpa using ‹(!vld p) = false›
           go_roundw
           case rel =>
             exact ⟨k + 1, by omega, by go_num, ⟨_, rfl, (area_round (by omega) HP.out HQ.out hx.out).2⟩, vld_step hval.out HP.out hv, ⟨_, (by repeat (first | with_reducible (first | exact blA | exact blB | refine blC _ ?_ | refine blD ?_ ?_ _ | refine blE ?_ | refine blF _ ?_ | refine blG ?_ _ | refine blH ?_ | refine blI ?_ ?_ _) | (simp only [World.size_alloc]; omega) | (simp <;> omega)))⟩, rfl⟩
           case measure => simp [intOf]; omega)
    · go_wp2
      go_ret
      obtain rfl : k = l.length := by omega
      have ha := allVld_of hval.out
      exact ⟨ret_int (by rw [hx.out ha]; simp [area2, hbig, ha]), (by repeat (first | with_reducible (first | exact blA | exact blB | refine blC _ ?_ | refine blD ?_ ?_ _ | refine blE ?_ | refine blF _ ?_ | refine blG ?_ _ | refine blH ?_ | refine blI ?_ ?_ _) | (simp only [World.size_alloc]; omega) | (simp <;> omega)))⟩
end Go.Proofs.Yteadnlodccnfcaa

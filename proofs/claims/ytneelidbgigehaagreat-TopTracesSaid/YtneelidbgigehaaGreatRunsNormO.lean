/- What Norm returns lies in memory of its own. -/
import Derived.Test.YtneelidbgigehaaGreatRunsNorm
namespace Go.Proofs.YtneelidbgigehaaGreat
set_option linter.unusedSimpArgs false
set_option linter.unusedVariables false
open Go.RowKit Runs
attribute [local go_sem] Kin.cell Kin.frozen
set_option maxRecDepth 100000 in
set_option maxHeartbeats 4000000 in
theorem norm_own (v : Value) (l : List Run) (w : World) (h : Rd 2 encRun w v l) (hlen : l.length ≤ 1099511627776) :
    Calls Tryz.prog 51 #[v] w fun e w' => (∃ u B, e = .returned (.tuple #[u, .int .i64 (normE l)]) ∧ w.heap.size ≤ B ∧ w'.ownsRow B 69 2 u (normR l).length ((normR l).flatMap encRun)) ∧ Below w.heap.size w w' := by
  obtain ⟨i0, hi, hz0, hz1, hz2⟩ := info_parts infoRun
  obtain ⟨A, cap, rfl, hcap, hopen⟩ := h.open_
  have Hopen : Hid (∀ (i : Nat) (x : Run), l[i]? = some x → ∃ b off, A = some ⟨b, off, none⟩ ∧ b < w.heap.size ∧
    ∀ (i : Nat) (x : Run), l[i]? = some x → ∀ (j : Nat) (u : Value), (encRun x)[j]? = some u → w.cell? ⟨b, off + i * 2 + j, none⟩ = some u) := hopen
  clear hopen h
  go_enter Tryz.func51, Tryz.ntmps51
  go_wp2
  go_loopw [4, 9] (fun o i wr => ∃ k : Nat, k ≤ l.length ∧ i = .int .i64 k ∧ Hid (∀ r ∈ fullTo l k, fits r = true) ∧ ∃ z : Kin w, z.1 = wr ∧ wr.ownsRow w.heap.size 69 2 o (fullTo l k).length ((fullTo l k).flatMap encRun)) (fun _ i _ => l.length - (intOf i).toNat)
  case atStart => exact ⟨0, Nat.zero_le _, rfl, (by show ∀ r ∈ _, _; simp [fullTo, full]), ⟨w, Below.refl _ _⟩, rfl, World.ownsRow_nil _ _ _ _⟩
  case round =>
    obtain ⟨k, hk, rfl, hfit, z, rfl, hown⟩ := hrel
    obtain ⟨E, hE⟩ : ∃ E, E = fullTo l k := ⟨_, rfl⟩
    rw [← hE] at hown
    have HE : Hid (E = fullTo l k) := hE
    have hEl : E.length ≤ k := by rw [hE]; exact fullTo_len l k
    clear hE
    have hrd := Rd.own encRun_len hown
    obtain ⟨A1, cap1, rfl, hcE, _⟩ := hrd.open_
    have HW : Hid (z.1.ownsRow w.heap.size 69 2 (.slice A1 E.length cap1) E.length (E.flatMap encRun)) := hown
    clear hown hrd
    by_cases hlt : k < l.length
    · obtain ⟨r, hr⟩ : ∃ r, l[k]? = some r := ⟨_, List.getElem?_eq_getElem hlt⟩
      obtain ⟨b, off, rfl, hb, hcell⟩ := Hopen.out k r hr
      have hb' := z.lt hb
      have c0 : z.1.cell? ⟨b, off + k * 2, none⟩ = some (.int .i64 r.1) := by rw [z.cell hb]; exact hcell k r hr 0 _ rfl
      have c1 : z.1.cell? ⟨b, off + k * 2 + 1, none⟩ = some (.int .i64 r.2) := by rw [z.cell hb]; exact hcell k r hr 1 _ rfl
      have HR : Hid (l[k]? = some r) := hr
      have hb2 : b < z.1.heap.size + 1 := by omega
      clear hr hcell Hopen
      go_wp2_with (first | (go_at_call 89; first | ((with_reducible refine (Kin.call _ (fits_any r _)).mono ?_); rintro e w' ⟨z, rfl, rfl⟩) | ((with_reducible refine (Kin.call0 (fits_any r _)).mono ?_); rintro e w' ⟨z, rfl, rfl⟩)) | (at_builtin; have hx := (own_below (HW.out.alloc (.cells #[.int .i64 r.1, .int .i64 r.2] 69)) z.2).alloc (.cells #[.int .i64 r.1, .int .i64 r.2] 69); refine wpList_append_own _ rfl _ _ 42 rfl w.heap.size 69 i0 (.agg #[.int .i64 0,.int .i64 0]) 2 16 Tryz.underlying42 hi hz0 hz1 hz2 rfl (by decide) _ _ _ rfl hx ⟨_, 0, none⟩ 1 1 [.int .i64 r.1, .int .i64 r.2] rfl rfl (cell2_new _ _ _ _) (one2 _ _) (by unfold maxLen; omega) (by omega) (by repeat (first | with_reducible exact Nat.le_refl _ | assumption | with_reducible refine le_alloc ?_ _ | with_reducible refine le_drew ?_ | with_reducible refine Kin.le _ ?_ | assumption | omega | (simp only [World.size_alloc]; omega))) ?_; intro v' w1 hown' hgrow hnil; (obtain ⟨y, rfl⟩ : ∃ y : Kin w, y.1 = w1 := ⟨⟨w1, own_grown (base := w.heap.size) (by repeat (first | with_reducible (first | exact blA | exact blB | refine blC _ ?_ | refine blD ?_ ?_ _ | refine blE ?_ | refine blF _ ?_ | refine blG ?_ _ | refine blH ?_ | refine blI ?_ ?_ _) | (simp only [World.size_alloc]; omega) | (simp <;> omega))) hx hgrow (Nat.le_refl _) (by repeat (first | with_reducible exact Nat.le_refl _ | assumption | with_reducible refine le_alloc ?_ _ | with_reducible refine le_drew ?_ | with_reducible refine Kin.le _ ?_ | assumption | omega | (simp only [World.size_alloc]; omega)))⟩, rfl⟩); clear hgrow hnil hx))
      all_goals first
        | (go_roundw
           case rel =>
             have e1 : fullTo l (k + 1) = E := by rw [fullTo_no HR.out (by omega)]; exact HE.out.symm
             exact ⟨k + 1, by omega, by go_num, (by show ∀ r ∈ _, _; rw [e1, HE.out]; exact hfit.out), ⟨World.alloc _ _, (by repeat (first | with_reducible (first | exact blA | exact blB | refine blC _ ?_ | refine blD ?_ ?_ _ | refine blE ?_ | refine blF _ ?_ | refine blG ?_ _ | refine blH ?_ | refine blI ?_ ?_ _) | (simp only [World.size_alloc]; omega) | (simp <;> omega)))⟩, rfl, by rw [e1]; exact HW.out.alloc _⟩
           case measure => simp [intOf]; omega)
        | (go_roundw
           case rel =>
             have e1 : fullTo l (k + 1) = E ++ [r] := by rw [fullTo_yes HR.out (by omega), HE.out]
             have e2 : ∀ r' ∈ fullTo l (k + 1), fits r' = true := by
               rw [e1]
               intro r' hr'
               rcases List.mem_append.1 hr' with hr' | hr'
               · rw [HE.out] at hr'; exact hfit.out r' hr'
               · simp only [List.mem_singleton] at hr'; subst hr'; simp_all
             exact ⟨k + 1, by omega, by go_num, e2, y, rfl, by rw [e1, List.length_append, List.flatMap_append]; exact hown'⟩
           case measure => simp [intOf]; omega)
        | (have hno := normOk_no HR.out (by omega) (by assumption)
           go_ret2
           refine ⟨⟨.slice none 0 0, w.heap.size, ?_, Nat.le_refl _, ?_⟩, (by repeat (first | with_reducible (first | exact blA | exact blB | refine blC _ ?_ | refine blD ?_ ?_ _ | refine blE ?_ | refine blF _ ?_ | refine blG ?_ _ | refine blH ?_ | refine blI ?_ ?_ _) | (simp only [World.size_alloc]; omega) | (simp <;> omega)))⟩
           · simp [normE, hno]
           · simp only [normR, hno]; exact World.ownsRow_nil _ _ _ _)
    · go_wp2_with (first
        | (go_at_call 90; refine (sort_runs w.heap.size _ _ E (by rw [HE.out]; exact hfit.out) HW.out (by omega) (by repeat (first | with_reducible exact Nat.le_refl _ | assumption | with_reducible refine le_alloc ?_ _ | with_reducible refine le_drew ?_ | with_reducible refine Kin.le _ ?_ | assumption | omega | (simp only [World.size_alloc]; omega)))).mono ?_; rintro e w' ⟨rfl, ys, hp, hs, hown', hb⟩; (obtain ⟨y, rfl⟩ : ∃ y : Kin w, y.1 = w' := ⟨⟨w', z.2.trans hb⟩, rfl⟩))
        | (go_at_call 92; first | ((with_reducible refine (Kin.call _ (join_any _ ys _ (Rd.own encRun_len hown') (by rw [hp.length_eq]; omega))).mono ?_); rintro e w' ⟨z, ⟨v, rfl, hv⟩, rfl⟩; skip) | ((with_reducible refine (Kin.call0 (join_any _ ys _ (Rd.own encRun_len hown') (by rw [hp.length_eq]; omega))).mono ?_); rintro e w' ⟨z, ⟨v, rfl, hv⟩, rfl⟩; skip)))
      go_ret2
      have hk4 : k = l.length := by omega
      have hEf : E = full l := by rw [HE.out, hk4, fullTo_all]
      have hok : normOk l = true := by
        unfold normOk
        rw [List.all_eq_true, ← hEf, HE.out]
        exact hfit.out
      have hj : jn ys = norm l := jn_norm (by rw [← hEf]; exact hp) hs
      refine ⟨⟨v, y.1.heap.size, ?_, y.2.size, ?_⟩, (by repeat (first | with_reducible (first | exact blA | exact blB | refine blC _ ?_ | refine blD ?_ ?_ _ | refine blE ?_ | refine blF _ ?_ | refine blG ?_ _ | refine blH ?_ | refine blI ?_ ?_ _) | (simp only [World.size_alloc]; omega) | (simp <;> omega)))⟩
      · simp [normE, hok]
      · simp only [normR, hok, if_true]; rw [← hj]; exact hv
end Go.Proofs.YtneelidbgigehaaGreat

/- What Norm returns: the list of the set, or an error. -/
import Derived.Test.YtneelidbgigehaaGreatRunsA
import Derived.Test.YtneelidbgigehaaGreatRunsSort
namespace Go.Proofs.YtneelidbgigehaaGreat
set_option linter.unusedSimpArgs false
set_option linter.unusedVariables false
open Go.RowKit Runs
attribute [local go_sem] Kin.cell Kin.frozen
theorem fits_bd {r : Run} (h : fits r = true) : -1048576 ≤ r.1 ∧ r.1 ≤ 1048576 ∧ -1048576 ≤ r.2 ∧ r.2 ≤ 1048576 := by simpa [fits] using h
def full (l : List Run) : List Run := l.filter (fun r => decide (r.1 < r.2))
def fullTo (l : List Run) (k : Nat) : List Run := full (l.take k)
/-- all runs that are not empty are in range -/
def normOk (l : List Run) : Bool := (full l).all fits
/-- the list of the set of all integers in runs of l -/
def norm (l : List Run) : List Run := jn ((full l).mergeSort (fun a b => decide (a.1 ≤ b.1)))
theorem fullTo_yes {l : List Run} {k : Nat} {r : Run} (h : l[k]? = some r) (hr : r.1 < r.2) : fullTo l (k + 1) = fullTo l k ++ [r] := by
  unfold fullTo full
  rw [List.take_add_one, h, List.filter_append]
  simp [hr]
theorem fullTo_no {l : List Run} {k : Nat} {r : Run} (h : l[k]? = some r) (hr : r.2 ≤ r.1) : fullTo l (k + 1) = fullTo l k := by
  unfold fullTo full
  rw [List.take_add_one, h, List.filter_append]
  simp; omega
theorem fullTo_len (l : List Run) (k : Nat) : (fullTo l k).length ≤ k := by
  unfold fullTo full
  have := List.length_filter_le (fun r : Run => decide (r.1 < r.2)) (l.take k)
  have := List.length_take_le k l
  omega
theorem fullTo_all (l : List Run) : fullTo l l.length = full l := by unfold fullTo; rw [List.take_length]
theorem normOk_no {l : List Run} {k : Nat} {r : Run} (h : l[k]? = some r) (hr : r.1 < r.2) (hf : (!fits r) = true) : normOk l = false := by
  unfold normOk full
  rw [List.all_eq_false]
  exact ⟨r, by simp [List.mem_of_getElem? h, hr], by simpa using hf⟩
theorem full_mem (l : List Run) (x : Int) : mem (full l) x = mem l x := by
  rw [Bool.eq_iff_iff, mem_iff, mem_iff]
  unfold full
  constructor
  · rintro ⟨r, hr, h⟩; exact ⟨r, (List.mem_filter.1 hr).1, h⟩
  · rintro ⟨r, hr, h⟩; exact ⟨r, List.mem_filter.2 ⟨hr, by simp; omega⟩, h⟩
theorem mem_perm {a b : List Run} (h : a.Perm b) (x : Int) : mem a x = mem b x := by
  rw [Bool.eq_iff_iff, mem_iff, mem_iff]
  constructor
  · rintro ⟨r, hr, h'⟩; exact ⟨r, h.mem_iff.1 hr, h'⟩
  · rintro ⟨r, hr, h'⟩; exact ⟨r, h.mem_iff.2 hr, h'⟩
/-- any sorted order of the runs gives the same joined list -/
theorem jn_sorted {l ys : List Run} (hp : ys.Perm (full l)) (hs : ys.Pairwise (fun a b => a.1 ≤ b.1)) : Sep (jn ys) ∧ ∀ x, mem (jn ys) x = mem l x := by
  have h1 : ∀ r ∈ ys, r.1 < r.2 := by
    intro r hr
    have := hp.mem_iff.1 hr
    unfold full at this
    simpa using (List.mem_filter.1 this).2
  obtain ⟨a, b⟩ := jn_spec h1 hs
  exact ⟨a, fun x => by rw [b, mem_perm hp, full_mem]⟩
theorem norm_sorted (l : List Run) : ((full l).mergeSort (fun a b => decide (a.1 ≤ b.1))).Perm (full l) ∧ ((full l).mergeSort (fun a b => decide (a.1 ≤ b.1))).Pairwise (fun a b => a.1 ≤ b.1) := by
  refine ⟨List.mergeSort_perm _ _, ?_⟩
  have := List.pairwise_mergeSort (le := fun a b : Run => decide (a.1 ≤ b.1)) (fun a b c h1 h2 => by simp at *; omega) (fun a b => by simp; omega) (full l)
  exact this.imp (fun h => by simpa using h)
theorem norm_spec (l : List Run) : Sep (norm l) ∧ ∀ x, mem (norm l) x = mem l x := jn_sorted (norm_sorted l).1 (norm_sorted l).2
theorem jn_norm {l ys : List Run} (hp : ys.Perm (full l)) (hs : ys.Pairwise (fun a b => a.1 ≤ b.1)) : jn ys = norm l := by
  obtain ⟨a, b⟩ := jn_sorted hp hs
  obtain ⟨c, d⟩ := norm_spec l
  exact sep_ext a c (fun x => by rw [b, d])
def normR (l : List Run) : List Run := if normOk l then norm l else []
def normE (l : List Run) : Int := if normOk l then 0 else 8
theorem jn_len (l : List Run) : (jn l).length ≤ l.length := by
  have := jnTo_len l l.length
  unfold jnTo at this
  rwa [List.take_length] at this
theorem normR_len (l : List Run) : (normR l).length ≤ l.length := by
  unfold normR norm
  split
  · refine Nat.le_trans (jn_len _) ?_
    rw [List.length_mergeSort]
    exact List.length_filter_le _ _
  · simp
set_option maxRecDepth 100000 in
set_option maxHeartbeats 4000000 in
theorem norm_any (v : Value) (l : List Run) (w : World) (h : Rd 2 encRun w v l) (hlen : l.length ≤ 1099511627776) :
    Calls Tryz.prog 51 #[v] w fun e w' => (∃ u, e = .returned (.tuple #[u, .int .i64 (normE l)]) ∧ Rd 2 encRun w' u (normR l)) ∧ Below w.heap.size w w' := by
  obtain ⟨i0, hi, hz0, hz1, hz2⟩ := info_parts infoRun
  obtain ⟨A, cap, rfl, hcap, hopen⟩ := h.open_
  have Hopen : Hid (∀ (i : Nat) (x : Run), l[i]? = some x → ∃ b off, A = some ⟨b, off, none⟩ ∧ b < w.heap.size ∧
    ∀ (i : Nat) (x : Run), l[i]? = some x → ∀ (j : Nat) (u : Value), (encRun x)[j]? = some u → w.cell? ⟨b, off + i * 2 + j, none⟩ = some u) := hopen
  clear hopen h
  go_enter Tryz.func51, Tryz.ntmps51
  go_wp2
  go_loopw [4, 9] (fun o i wr => ∃ k : Nat, k ≤ l.length ∧ i = .int .i64 k ∧ Hid (∀ r ∈ fullTo l k, fits r = true) ∧ ∃ z : Kin w, z.1 = wr ∧ wr.ownsRow w.heap.size 69 2 o (fullTo l k).length ((fullTo l k).flatMap encRun)) (fun _ i _ => l.length - (intOf i).toNat)
  case atStart => exact ⟨0, Nat.zero_le _, rfl, (by show ∀ r ∈ _, _; simp [fullTo, full]), ⟨w, Below.refl _ _⟩, rfl, World.ownsRow_nil _ _ _ _⟩
  case round =>
    obtain ⟨k, hk, rfl, hfit, z, rfl, hown⟩ := hrel
    obtain ⟨E, hE⟩ : ∃ E, E = fullTo l k := ⟨_, rfl⟩
    rw [← hE] at hown
    have HE : Hid (E = fullTo l k) := hE
    have hEl : E.length ≤ k := by rw [hE]; exact fullTo_len l k
    clear hE
    have hrd := Rd.own encRun_len hown
    obtain ⟨A1, cap1, rfl, hcE, _⟩ := hrd.open_
    have HW : Hid (z.1.ownsRow w.heap.size 69 2 (.slice A1 E.length cap1) E.length (E.flatMap encRun)) := hown
    clear hown hrd
    by_cases hlt : k < l.length
    · obtain ⟨r, hr⟩ : ∃ r, l[k]? = some r := ⟨_, List.getElem?_eq_getElem hlt⟩
      obtain ⟨b, off, rfl, hb, hcell⟩ := Hopen.out k r hr
      have hb' := z.lt hb
      have c0 : z.1.cell? ⟨b, off + k * 2, none⟩ = some (.int .i64 r.1) := by rw [z.cell hb]; exact hcell k r hr 0 _ rfl
      have c1 : z.1.cell? ⟨b, off + k * 2 + 1, none⟩ = some (.int .i64 r.2) := by rw [z.cell hb]; exact hcell k r hr 1 _ rfl
      have HR : Hid (l[k]? = some r) := hr
      have hb2 : b < z.1.heap.size + 1 := by omega
      clear hr hcell Hopen
      go_wp2_with (first | (go_at_call 89; first | ((with_reducible refine (Kin.call _ (fits_any r _)).mono ?_); rintro e w' ⟨z, rfl, rfl⟩) | ((with_reducible refine (Kin.call0 (fits_any r _)).mono ?_); rintro e w' ⟨z, rfl, rfl⟩)) | (at_builtin; have hx := (own_below (HW.out.alloc (.cells #[.int .i64 r.1, .int .i64 r.2] 69)) z.2).alloc (.cells #[.int .i64 r.1, .int .i64 r.2] 69); refine wpList_append_own _ rfl _ _ 42 rfl w.heap.size 69 i0 (.agg #[.int .i64 0,.int .i64 0]) 2 16 Tryz.underlying42 hi hz0 hz1 hz2 rfl (by decide) _ _ _ rfl hx ⟨_, 0, none⟩ 1 1 [.int .i64 r.1, .int .i64 r.2] rfl rfl (cell2_new _ _ _ _) (one2 _ _) (by unfold maxLen; omega) (by omega) (by repeat (first | with_reducible exact Nat.le_refl _ | assumption | with_reducible refine le_alloc ?_ _ | with_reducible refine le_drew ?_ | with_reducible refine Kin.le _ ?_ | assumption | omega | (simp only [World.size_alloc]; omega))) ?_; intro v' w1 hown' hgrow hnil; (obtain ⟨y, rfl⟩ : ∃ y : Kin w, y.1 = w1 := ⟨⟨w1, own_grown (base := w.heap.size) (by repeat (first | with_reducible (first | exact blA | exact blB | refine blC _ ?_ | refine blD ?_ ?_ _ | refine blE ?_ | refine blF _ ?_ | refine blG ?_ _ | refine blH ?_ | refine blI ?_ ?_ _) | (simp only [World.size_alloc]; omega) | (simp <;> omega))) hx hgrow (Nat.le_refl _) (by repeat (first | with_reducible exact Nat.le_refl _ | assumption | with_reducible refine le_alloc ?_ _ | with_reducible refine le_drew ?_ | with_reducible refine Kin.le _ ?_ | assumption | omega | (simp only [World.size_alloc]; omega)))⟩, rfl⟩); clear hgrow hnil hx))
      all_goals first
        | (go_roundw
           case rel =>
             have e1 : fullTo l (k + 1) = E := by rw [fullTo_no HR.out (by omega)]; exact HE.out.symm
             exact ⟨k + 1, by omega, by go_num, (by show ∀ r ∈ _, _; rw [e1, HE.out]; exact hfit.out), ⟨World.alloc _ _, (by repeat (first | with_reducible (first | exact blA | exact blB | refine blC _ ?_ | refine blD ?_ ?_ _ | refine blE ?_ | refine blF _ ?_ | refine blG ?_ _ | refine blH ?_ | refine blI ?_ ?_ _) | (simp only [World.size_alloc]; omega) | (simp <;> omega)))⟩, rfl, by rw [e1]; exact HW.out.alloc _⟩
           case measure => simp [intOf]; omega)
        | (go_roundw
           case rel =>
             have e1 : fullTo l (k + 1) = E ++ [r] := by rw [fullTo_yes HR.out (by omega), HE.out]
             have e2 : ∀ r' ∈ fullTo l (k + 1), fits r' = true := by
               rw [e1]
               intro r' hr'
               rcases List.mem_append.1 hr' with hr' | hr'
               · rw [HE.out] at hr'; exact hfit.out r' hr'
               · simp only [List.mem_singleton] at hr'; subst hr'; simp_all
             exact ⟨k + 1, by omega, by go_num, e2, y, rfl, by rw [e1, List.length_append, List.flatMap_append]; exact hown'⟩
           case measure => simp [intOf]; omega)
        | (have hno := normOk_no HR.out (by omega) (by assumption)
           go_ret2
           refine ⟨⟨.slice none 0 0, ?_, ?_⟩, (by repeat (first | with_reducible (first | exact blA | exact blB | refine blC _ ?_ | refine blD ?_ ?_ _ | refine blE ?_ | refine blF _ ?_ | refine blG ?_ _ | refine blH ?_ | refine blI ?_ ?_ _) | (simp only [World.size_alloc]; omega) | (simp <;> omega)))⟩
           · simp [normE, hno]
           · simp only [normR, hno]; exact Rd.nil)
    · go_wp2_with (first
        | (go_at_call 90; refine (sort_runs w.heap.size _ _ E (by rw [HE.out]; exact hfit.out) HW.out (by omega) (by repeat (first | with_reducible exact Nat.le_refl _ | assumption | with_reducible refine le_alloc ?_ _ | with_reducible refine le_drew ?_ | with_reducible refine Kin.le _ ?_ | assumption | omega | (simp only [World.size_alloc]; omega)))).mono ?_; rintro e w' ⟨rfl, ys, hp, hs, hown', hb⟩; (obtain ⟨y, rfl⟩ : ∃ y : Kin w, y.1 = w' := ⟨⟨w', z.2.trans hb⟩, rfl⟩))
        | (go_at_call 92; first | ((with_reducible refine (Kin.call _ (join_any _ ys _ (Rd.own encRun_len hown') (by rw [hp.length_eq]; omega))).mono ?_); rintro e w' ⟨z, ⟨v, rfl, hv⟩, rfl⟩; skip) | ((with_reducible refine (Kin.call0 (join_any _ ys _ (Rd.own encRun_len hown') (by rw [hp.length_eq]; omega))).mono ?_); rintro e w' ⟨z, ⟨v, rfl, hv⟩, rfl⟩; skip)))
      go_ret2
      have hk4 : k = l.length := by omega
      have hEf : E = full l := by rw [HE.out, hk4, fullTo_all]
      have hok : normOk l = true := by
        unfold normOk
        rw [List.all_eq_true, ← hEf, HE.out]
        exact hfit.out
      have hj : jn ys = norm l := jn_norm (by rw [← hEf]; exact hp) hs
      refine ⟨⟨v, ?_, ?_⟩, (by repeat (first | with_reducible (first | exact blA | exact blB | refine blC _ ?_ | refine blD ?_ ?_ _ | refine blE ?_ | refine blF _ ?_ | refine blG ?_ _ | refine blH ?_ | refine blI ?_ ?_ _) | (simp only [World.size_alloc]; omega) | (simp <;> omega)))⟩
      · simp [normE, hok]
      · simp only [normR, hok, if_true]; rw [← hj]; exact Rd.own encRun_len hv
end Go.Proofs.YtneelidbgigehaaGreat

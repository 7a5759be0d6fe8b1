/- Chapter 19 in plain words: what the chapter's own loops build, and what the program's loops build. -/
import Derived.Test.YtneelidbgigehaaGreatRasMathB
import Derived.Test.YtneelidbgigehaaGreatUpFrom
namespace Go.Proofs.YtneelidbgigehaaGreat
set_option linter.unusedSimpArgs false
set_option linter.unusedVariables false
namespace Ras
open Runs Reg
/-- where something is inside an edge passes -/
theorem inP_edge {l : List (List P2)} {pitch x y : Int} (hp : 0 < pitch) (h : inP l pitch x y = true) : ∃ e ∈ edgesR l, e.1.1.2 ≤ ctr y pitch ∧ ctr y pitch < e.1.2.2 := by
  apply Classical.byContradiction
  intro hno
  have h1 : stepsR (edgesR l) (ctr y pitch) pitch = [] := by
    refine stepsR_none fun e he => ?_
    cases ha : act e (ctr y pitch)
    · rfl
    · unfold act at ha
      simp only [Bool.and_eq_true, decide_eq_true_eq] at ha
      exact absurd ⟨e, he, ha⟩ hno
  have h2 : windT (stepsR (edgesR l) (ctr y pitch) pitch) x = wind l (ctr x pitch, ctr y pitch) := steps_wind _ hp
  rw [h1] at h2
  have h3 : wind l (ctr x pitch, ctr y pitch) = 0 := by rw [← h2]; rfl
  unfold inP at h
  rw [h3] at h
  simp at h
/-- the greatest upper end -/
def topTo (E : List Ed) (k : Nat) : Int := (E.take k).foldl (fun t e => max t e.1.2.2) ((E[0]?.map fun e => e.1.2.2).getD 0)
theorem topTo_succ {E : List Ed} {k : Nat} {e : Ed} (h : E[k]? = some e) : topTo E (k + 1) = max (topTo E k) e.1.2.2 := by
  unfold topTo; rw [List.take_add_one, h, List.foldl_append]; rfl
theorem fold_max_le (l : List Ed) (t : Int) : t ≤ l.foldl (fun t e => max t e.1.2.2) t ∧ ∀ e ∈ l, e.1.2.2 ≤ l.foldl (fun t e => max t e.1.2.2) t := by
  induction l generalizing t with
  | nil => exact ⟨Int.le_refl _, by simp⟩
  | cons a l ih =>
    obtain ⟨h1, h2⟩ := ih (max t a.1.2.2)
    simp only [List.foldl_cons]
    refine ⟨by omega, fun e he => ?_⟩
    rcases List.mem_cons.1 he with rfl | he
    · omega
    · exact h2 e he
theorem fold_max_bd (l : List Ed) (t M : Int) (ht : t ≤ M) (h : ∀ e ∈ l, e.1.2.2 ≤ M) : l.foldl (fun t e => max t e.1.2.2) t ≤ M := by
  induction l generalizing t with
  | nil => exact ht
  | cons a l ih =>
    simp only [List.foldl_cons]
    exact ih _ (by have := h a (by simp); omega) (fun e he => h e (by simp [he]))
theorem topTo_bd {E : List Ed} (h : ∀ e ∈ E, okEd e) (k : Nat) : -65536 ≤ topTo E k ∧ topTo E k ≤ 65536 := by
  have h0 : -65536 ≤ ((E[0]?.map fun e => e.1.2.2).getD 0) ∧ ((E[0]?.map fun e => e.1.2.2).getD 0) ≤ 65536 := by
    cases he : E[0]? with
    | none => simp
    | some e => have := h e (List.mem_of_getElem? he); unfold okEd at this; simp; omega
  have h1 := (fold_max_le (E.take k) ((E[0]?.map fun e => e.1.2.2).getD 0)).1
  have h2 := fold_max_bd (E.take k) ((E[0]?.map fun e => e.1.2.2).getD 0) 65536 h0.2 (fun e he => by have := h e (List.mem_of_mem_take he); unfold okEd at this; omega)
  unfold topTo; omega
/-- the first row and the number of rows in which cells can be inside -/
def firstR (E : List Ed) (pitch : Int) : Int := match E[0]? with
  | none => 0
  | some e => max (e.1.1.2 / pitch) (-4096)
def lastR (E : List Ed) (pitch : Int) : Int := min (topTo E E.length / pitch) 4095
def countR (E : List Ed) (pitch : Int) : Int := match E[0]? with
  | none => 0
  | some _ => max 0 (lastR E pitch - firstR E pitch + 1)
theorem ctr_div {y pitch : Int} (hp : 2 ≤ pitch) : y * pitch ≤ ctr y pitch ∧ ctr y pitch < (y + 1) * pitch := by
  unfold ctr
  rw [Int.add_mul]
  omega
theorem countR_bd {E : List Ed} {pitch : Int} : 0 ≤ countR E pitch ∧ (countR E pitch ≤ 8192 ∧ -4096 ≤ firstR E pitch ∧ (0 < countR E pitch → firstR E pitch + countR E pitch ≤ 4096)) := by
  unfold countR firstR
  cases E[0]? with
  | none => simp
  | some e =>
    simp only
    unfold lastR
    omega
/-- the rows between hold all cells inside -/
theorem rows_hold {l : List (List P2)} {E : List Ed} {pitch x y : Int} (hp : 2 ≤ pitch) (hE : E.Perm (edgesR l)) (hs : E.Pairwise (fun a b => a.1.1.2 ≤ b.1.1.2)) (h1 : -4096 ≤ y) (h2 : y < 4096) (h : inP l pitch x y = true) :
    firstR E pitch ≤ y ∧ y < firstR E pitch + countR E pitch := by
  obtain ⟨e, he, h3, h4⟩ := inP_edge (by omega) h
  have he' : e ∈ E := hE.mem_iff.2 he
  obtain ⟨i, hi, rfl⟩ := List.getElem_of_mem he'
  have hpos : 0 < E.length := by omega
  have e0 : E[0]? = some E[0] := List.getElem?_eq_getElem hpos
  have hlow : E[0].1.1.2 ≤ E[i].1.1.2 := by
    rcases Nat.eq_zero_or_pos i with h5 | h5
    · subst h5; exact Int.le_refl _
    · exact List.pairwise_iff_getElem.1 hs 0 i hpos hi h5
  have htop : E[i].1.2.2 ≤ topTo E E.length := by
    unfold topTo
    rw [List.take_length]
    exact (fold_max_le E _).2 _ (List.getElem_mem hi)
  have hc := ctr_div (y := y) hp
  have d1 : E[0].1.1.2 / pitch ≤ y := by
    have : E[0].1.1.2 / pitch < y + 1 := (Int.ediv_lt_iff_lt_mul (by omega)).2 (by omega)
    omega
  have d2 : y ≤ topTo E E.length / pitch := (Int.le_ediv_iff_mul_le (by omega)).2 (by omega)
  unfold countR firstR lastR
  rw [e0]
  simp only
  omega
/-- the program's region -/
theorem ras_rows {l : List (List P2)} {E : List Ed} {pitch : Int} (hp : 2 ≤ pitch) (hE : E.Perm (edgesR l)) (hs : E.Pairwise (fun a b => a.1.1.2 ≤ b.1.1.2)) {n : Nat} (hn : (n : Int) = countR E pitch) :
    rowsOn (rowP l pitch) (upFrom (firstR E pitch) n) = rasR l pitch := by
  have hb := countR_bd (E := E) (pitch := pitch)
  refine rasR_part (upFrom_asc _ _) (fun y hy => ?_) (fun x y h1 h2 h => ?_)
  · have := mem_upFrom.1 hy
    omega
  · rw [mem_upFrom]
    have := rows_hold hp hE hs h1 h2 h
    omega
theorem rowP_in (l : List (List P2)) (pitch y : Int) : SepIn (rowP l pitch y) := (rowP_spec l pitch y).1
/-- the chapter's loops -/
theorem near_mono {l : List (List P2)} {pitch N M : Int} (hp : 0 ≤ pitch) (h : Near l pitch N) (hN : N ≤ M) : Near l pitch M := by
  intro o ho q hq
  have h1 := h o ho q hq
  have h2 := Int.mul_le_mul_of_nonneg_right hN hp
  omega
def oneRow (l : List (List P2)) (pitch N y : Int) (k : Nat) : List Run := (upFrom (-N) k).filterMap fun x => if inP l pitch x y then some (x, x + 1) else none
theorem oneRow_succ (l : List (List P2)) (pitch N y : Int) (k : Nat) : oneRow l pitch N y (k + 1) = oneRow l pitch N y k ++ if inP l pitch (-N + k) y then [(-N + k, -N + k + 1)] else [] := by
  unfold oneRow
  rw [upFrom_succ, List.filterMap_append]
  congr 1
  simp only [List.filterMap_cons, List.filterMap_nil]
  split <;> rename_i h <;> split at h <;> simp_all
theorem oneRow_len (l : List (List P2)) (pitch N y : Int) (k : Nat) : (oneRow l pitch N y k).length ≤ k := by
  have := List.length_filterMap_le (fun x => if inP l pitch x y then some ((x, x + 1) : Run) else none) (upFrom (-N) k)
  rw [upFrom_len] at this
  exact this
theorem inP_near {l : List (List P2)} {pitch N x y : Int} (hp : 2 ≤ pitch) (hN : Near l pitch N) (h : inP l pitch x y = true) : -N ≤ x ∧ x < N ∧ -N ≤ y ∧ y < N :=
  wind_far hp hN (by unfold inP at h; rw [decide_eq_true_eq] at h; omega)
theorem oneRow_is {l : List (List P2)} {pitch N y : Int} {n : Nat} (hp : 2 ≤ pitch) (hN : Near l pitch N) (hN2 : N ≤ 4095) (hn : (n : Int) = 2 * N + 1) : normal (oneRow l pitch N y n) = rowP l pitch y := by
  refine sep_ext (normal_spec _).1 (rowP_spec l pitch y).1.1 fun x => ?_
  rw [Bool.eq_iff_iff, (normal_spec _).2, (rowP_spec l pitch y).2, mem_iff]
  unfold oneRow
  constructor
  · rintro ⟨r, hr, h1, h2⟩
    obtain ⟨a, ha, h3⟩ := List.mem_filterMap.1 hr
    rw [mem_upFrom] at ha
    split at h3
    · rename_i hin
      cases h3
      simp only at h1 h2
      have : a = x := by omega
      subst this
      exact ⟨by omega, hin⟩
    · cases h3
  · rintro ⟨h1, h2⟩
    have h3 := inP_near hp hN h2
    refine ⟨(x, x + 1), List.mem_filterMap.2 ⟨x, mem_upFrom.2 (by omega), by rw [if_pos h2]⟩, Int.le_refl _, ?_⟩
    show x < x + 1; omega
def cellRow (l : List (List P2)) (pitch N y : Int) (k : Nat) : List (Int × Int) := (upFrom (-N) k).filterMap fun x => if inP l pitch x y then some (x, y) else none
theorem cellRow_succ (l : List (List P2)) (pitch N y : Int) (k : Nat) : cellRow l pitch N y (k + 1) = cellRow l pitch N y k ++ if inP l pitch (-N + k) y then [(-N + k, y)] else [] := by
  unfold cellRow
  rw [upFrom_succ, List.filterMap_append]
  congr 1
  simp only [List.filterMap_cons, List.filterMap_nil]
  split <;> rename_i h <;> split at h <;> simp_all
theorem cellRow_len (l : List (List P2)) (pitch N y : Int) (k : Nat) : (cellRow l pitch N y k).length ≤ k := by
  have := List.length_filterMap_le (fun x => if inP l pitch x y then some ((x, y) : Int × Int) else none) (upFrom (-N) k)
  rw [upFrom_len] at this
  exact this
def cellRows (l : List (List P2)) (pitch N : Int) (j : Nat) : List (Int × Int) := (upFrom (-N) j).flatMap fun y => cellRow l pitch N y (2 * N + 1).toNat
theorem cellRows_succ (l : List (List P2)) (pitch N : Int) (j : Nat) : cellRows l pitch N (j + 1) = cellRows l pitch N j ++ cellRow l pitch N (-N + j) (2 * N + 1).toNat := by
  unfold cellRows
  rw [upFrom_succ, List.flatMap_append]; simp
theorem cellRows_len (l : List (List P2)) (pitch N : Int) (j : Nat) : (cellRows l pitch N j).length ≤ j * (2 * N + 1).toNat := by
  induction j with
  | zero => simp [cellRows, upFrom]
  | succ j ih =>
    rw [cellRows_succ, List.length_append, Nat.add_mul]
    have := cellRow_len l pitch N (-N + j) (2 * N + 1).toNat
    omega
theorem cellRows_mem {l : List (List P2)} {pitch N : Int} {j : Nat} {c : Int × Int} : c ∈ cellRows l pitch N j ↔ (-N ≤ c.2 ∧ c.2 < -N + j) ∧ (-N ≤ c.1 ∧ c.1 < -N + (2 * N + 1).toNat) ∧ inP l pitch c.1 c.2 = true := by
  unfold cellRows
  rw [List.mem_flatMap]
  constructor
  · rintro ⟨y, hy, hc⟩
    unfold cellRow at hc
    obtain ⟨a, ha, h3⟩ := List.mem_filterMap.1 hc
    rw [mem_upFrom] at ha hy
    split at h3
    · rename_i hin
      cases h3
      exact ⟨hy, ha, hin⟩
    · cases h3
  · rintro ⟨h1, h2, h3⟩
    exact ⟨c.2, mem_upFrom.2 h1, List.mem_filterMap.2 ⟨c.1, mem_upFrom.2 h2, by rw [if_pos h3]⟩⟩
theorem cells_of {l : List (List P2)} {pitch N : Int} {n : Nat} (hp : 2 ≤ pitch) (hN : Near l pitch N) (hN0 : 0 ≤ N) (hN2 : N ≤ 4095) (hn : (n : Int) = 2 * N + 1) : ofE (cellRows l pitch N n) = 0 ∧ ofR (cellRows l pitch N n) = rasR l pitch := by
  have hok : (cellRows l pitch N n).all okCell = true := by
    rw [List.all_eq_true]
    intro c hc
    have := cellRows_mem.1 hc
    rw [okCell_iff]; omega
  refine ⟨by unfold ofE; rw [hok]; rfl, ofR_ext hok (rvalid_iff.2 (rasR_spec l pitch).1) fun x y => ?_⟩
  rw [(rasR_spec l pitch).2, cellRows_mem]
  constructor
  · rintro ⟨h1, h2, h3⟩
    have := inP_near hp hN h3
    exact ⟨by simp only; omega, by simp only; omega, h3⟩
  · rintro ⟨h1, h2, h3⟩
    simp only at h1 h2 h3
    exact ⟨by omega, by omega, h3⟩
end Ras
end Go.Proofs.YtneelidbgigehaaGreat

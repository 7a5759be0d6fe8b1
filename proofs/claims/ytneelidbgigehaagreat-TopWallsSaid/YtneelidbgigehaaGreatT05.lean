/- Lemmas: RasMath RasMathA RunsA RunsB RegMathB RegKit. -/
import Derived.Test.YtneelidbgigehaaGreatT02
import Derived.Test.YtneelidbgigehaaGreatRows
import Derived.Test.YtneelidbgigehaaGreatT01
/- Chapter 19 in plain words: edges, crossings, winding numbers, rows. -/
namespace Go.Proofs.YtneelidbgigehaaGreat
set_option linter.unusedSimpArgs false
set_option linter.unusedVariables false
namespace Ras
open Runs Reg
abbrev P2 := Int × Int
/-- an edge from its lower end to its upper one, with its sign -/
abbrev Ed := (P2 × P2) × Int
/-- the side of a closed polygon from its vertex i on -/
def sideAt (o : List P2) (i : Nat) : P2 × P2 := ((o[i]?).getD (0, 0), (o[(i + 1) % o.length]?).getD (0, 0))
def sidesTo (o : List P2) (k : Nat) : List (P2 × P2) := (List.range k).map (sideAt o)
def sides (o : List P2) : List (P2 × P2) := sidesTo o o.length
/-- twice the area of the triangle a, b, p -/
def crs (a b p : P2) : Int := (b.1 - a.1) * (p.2 - a.2) - (b.2 - a.2) * (p.1 - a.1)
/-- what the side from a to b adds to the winding number at p -/
def addW (a b p : P2) : Int := if a.2 ≤ p.2 ∧ p.2 < b.2 ∧ 0 < crs a b p then 1 else if b.2 ≤ p.2 ∧ p.2 < a.2 ∧ crs a b p < 0 then -1 else 0
def sumI (l : List Int) : Int := l.foldr (· + ·) 0
def windS (s : List (P2 × P2)) (p : P2) : Int := sumI (s.map fun q => addW q.1 q.2 p)
def wind (l : List (List P2)) (p : P2) : Int := windS (l.flatMap sides) p
/-- the center of a cell -/
def ctr (n pitch : Int) : Int := n * pitch + pitch / 2
end Ras
end Go.Proofs.YtneelidbgigehaaGreat

/- Chapter 19 in plain words: points, edges and steps as the loops meet them. -/
namespace Go.Proofs.YtneelidbgigehaaGreat
set_option linter.unusedSimpArgs false
set_option linter.unusedVariables false
namespace Ras
open Runs Reg
def okPt (p : P2) : Bool := decide (-65536 ≤ p.1 ∧ p.1 ≤ 65536 ∧ -65536 ≤ p.2 ∧ p.2 ≤ 65536)
def okPs (l : List (List P2)) : Bool := l.all fun o => o.all okPt
theorem okPs_iff {l : List (List P2)} : okPs l = true ↔ ∀ o ∈ l, ∀ q ∈ o, okPt q = true := by simp [okPs, List.all_eq_true]
/-- all points seen so far are in range -/
def okTo (l : List (List P2)) (i : Nat) : Prop := ∀ o ∈ l.take i, ∀ q ∈ o, okPt q = true
theorem okTo_succ {l : List (List P2)} {i : Nat} {o : List P2} (h : okTo l i) (ho : l[i]? = some o) (hq : ∀ q ∈ o, okPt q = true) : okTo l (i + 1) := by
  intro p hp
  rw [List.take_add_one, ho] at hp
  rcases List.mem_append.1 hp with hp | hp
  · exact h p hp
  · have e : p = o := by simpa using hp
    subst e; exact hq
theorem okTo_all {l : List (List P2)} {i : Nat} (h : okTo l i) (hi : l.length ≤ i) : okPs l = true := by
  unfold okTo at h
  rw [List.take_of_length_le hi] at h
  exact okPs_iff.2 h
/-- an edge whose numbers are in range -/
def okEd (e : Ed) : Prop := (-65536 ≤ e.1.1.1 ∧ e.1.1.1 ≤ 65536 ∧ -65536 ≤ e.1.1.2 ∧ e.1.1.2 ≤ 65536) ∧ (-65536 ≤ e.1.2.1 ∧ e.1.2.1 ≤ 65536 ∧ -65536 ≤ e.1.2.2 ∧ e.1.2.2 ≤ 65536) ∧ e.1.1.2 < e.1.2.2 ∧ (e.2 = 1 ∨ e.2 = -1)
end Ras
end Go.Proofs.YtneelidbgigehaaGreat

/- What the functions on runs return. (joined: RunsWalks RunsJoin RunsRef) -/
/- What the functions on runs return. -/
namespace Go.Proofs.YtneelidbgigehaaGreat
set_option linter.unusedSimpArgs false
set_option linter.unusedVariables false
open Go.RowKit Runs
attribute [local go_sem] Kin.cell Kin.frozen
abbrev rv (r : Run) : Value := .agg #[.int .i64 r.1, .int .i64 r.2]
def encRun (r : Run) : List Value := [.int .i64 r.1, .int .i64 r.2]
set_option maxHeartbeats 400000 in
theorem fits_any (r : Run) (w : World) :
    Calls Tryz.prog 89 #[rv r] w fun e w' => e = .returned (.bool (fits r)) ∧ Below w.heap.size w w' := by
  go_enter Tryz.func89, Tryz.ntmps89
  go_wp2
  all_goals
    go_ret
    exact ⟨ret_bool (by simp [fits, *] <;> omega), gRw⟩
theorem vstep_f1 {l : List Run} {k : Nat} {r : Run} (hr : l[k]? = some r) (h : r.2 ≤ r.1) : vstep l k = false := by
  have h' : decide (r.1 < r.2) = false := decide_eq_false (by omega)
  simp [vstep, hr, h']
theorem vstep_f2 {l : List Run} {k : Nat} {r : Run} (hr : l[k]? = some r) (h : (!fits r) = true) : vstep l k = false := by
  simp at h; simp [vstep, hr, h]
theorem vstep_f3 {l : List Run} {k : Nat} {r q : Run} (hr : l[k]? = some r) (hq : ∀ x, l[k - 1]? = some x → x = q) (h0 : 0 < k) (h : r.1 ≤ q.2) : vstep l k = false := by
  have hk : k < l.length := (List.getElem?_eq_some_iff.1 hr).1
  have hl : l[k - 1]? = some l[k - 1] := List.getElem?_eq_getElem (by omega)
  have := hq _ hl
  have h1 : decide (q.2 < r.1) = false := decide_eq_false (by omega)
  have h2 : (k == 0) = false := by simp; omega
  simp [vstep, hr, hl, this, h1, h2]
theorem vstep_t {l : List Run} {k : Nat} {r q : Run} (hr : l[k]? = some r) (hq : ∀ x, l[k - 1]? = some x → x = q) (h1 : ¬ r.2 ≤ r.1) (h2 : (!fits r) = false) (h3 : 0 < k → ¬ r.1 ≤ q.2) : vstep l k = true := by
  have hk : k < l.length := (List.getElem?_eq_some_iff.1 hr).1
  have hl : l[k - 1]? = some l[k - 1] := List.getElem?_eq_getElem (by omega)
  have := hq _ hl
  simp at h2
  simp only [vstep, hr, hl, this, h2, Bool.and_eq_true, Bool.or_eq_true, beq_iff_eq, decide_eq_true_eq]
  refine ⟨⟨by omega, trivial⟩, ?_⟩
  rcases Nat.eq_zero_or_pos k with h0 | h0
  · exact .inl h0
  · exact .inr (by have := h3 h0; omega)
theorem valid_false {l : List Run} {k : Nat} (hk : k < l.length) (h : vstep l k = false) : valid l = false := by
  simp only [valid, validTo, List.all_eq_false]
  exact ⟨k, by simpa using hk, by simp [h]⟩
theorem validTo_succ {l : List Run} {k : Nat} (h1 : validTo l k = true) (h : vstep l k = true) : validTo l (k + 1) = true := by
  simp only [validTo, List.range_succ, List.all_append, List.all_cons, List.all_nil, Bool.and_true, Bool.and_eq_true] at *
  exact ⟨h1, h⟩
set_option maxHeartbeats 1000000 in
theorem valid_any (v : Value) (l : List Run) (w : World) (h : Rd 2 encRun w v l) (hlen : l.length ≤ 9223372036854775807) :
    Calls Tryz.prog 53 #[v] w fun e w' => e = .returned (.bool (valid l)) ∧ Below w.heap.size w w' := by
  obtain ⟨A, cap, rfl, hcap, hopen⟩ := h.open_
  have HO := hopen
  clear hopen
  have Hopen : Hid (∀ i x, l[i]? = some x → ∃ b off, A = some ⟨b, off, none⟩ ∧ b < w.heap.size ∧
    ∀ i x, l[i]? = some x → ∀ j u, (encRun x)[j]? = some u → w.cell? ⟨b, off + i * 2 + j, none⟩ = some u) := HO
  clear HO h
  go_enter Tryz.func53, Tryz.ntmps53
  go_wp2
  go_loopw [7] (fun i wr => ∃ k : Nat, k ≤ l.length ∧ i = .int .i64 k ∧ Hid (validTo l k = true) ∧ ∃ z : Kin w, z.1 = wr) (fun i _ => l.length - (intOf i).toNat)
  case atStart => exact ⟨0, Nat.zero_le _, rfl, rfl, ⟨w, Below.refl _ _⟩, rfl⟩
  case round =>
    obtain ⟨k, hk, rfl, hval, z, rfl⟩ := hrel
    by_cases hlt : k < l.length
    · obtain ⟨r, hr⟩ : ∃ r, l[k]? = some r := ⟨_, List.getElem?_eq_getElem hlt⟩
      obtain ⟨b, off, rfl, hb, hcell⟩ := Hopen.out k r hr
      have hb' := z.lt hb
      have c0 : z.1.cell? ⟨b, off + k * 2, none⟩ = some (.int .i64 r.1) := by rw [z.cell hb]; exact hcell k r hr 0 _ rfl
      have c1 : z.1.cell? ⟨b, off + k * 2 + 1, none⟩ = some (.int .i64 r.2) := by rw [z.cell hb]; exact hcell k r hr 1 _ rfl
      obtain ⟨q, hq⟩ : ∃ q : Run, ∀ x, l[k - 1]? = some x → x = q := ⟨(l[k - 1]?).getD (0, 0), fun x hx => by simp [hx]⟩
      have cq : (0 : Int) < (k : Int) → z.1.cell? ⟨b, off + (k - 1) * 2 + 1, none⟩ = some (.int .i64 q.2) := fun h0 => by
        have hl : l[k - 1]? = some l[k - 1] := List.getElem?_eq_getElem (by omega)
        rw [z.cell hb]
        have := hcell (k - 1) _ hl 1 _ rfl
        rw [hq _ hl] at this
        exact this
      have Hq : Hid (∀ x, l[k - 1]? = some x → x = q) := hq
      have Hr : Hid (l[k]? = some r) := hr
      clear hr hcell hq Hopen
      have hb2 : b < z.1.heap.size + 1 := by omega
      go_wp2
      ((first | refine wp_region_kin _ (by kernel_rfl) (by kernel_rfl) ?_ | refine wp_region_kin0 (by kernel_rfl) (by kernel_rfl) ?_); (repeat' (first | go_big_quiet_step ((go_at_call 89; exact Kin.quiet _ (fits_any r _))) | ((refine wpQuiet_guard rfl rfl rfl rfl (fun hg => ?_) (fun hg => ?_)) <;> (fail_if_success (first | guard_hyp hg : true = true | guard_hyp hg : false = false)) <;> (try simp only [decide_eq_true_eq, decide_eq_false_iff_not] at hg) <;> simp only [Act.put, List.setIfInBounds_toArray, List.set_cons_zero, List.set_cons_succ]))); all_goals ((with_reducible refine wpQuiet_nil ?_); rintro _ ⟨z, rfl⟩))
      all_goals go_wp2
      all_goals first
        | (go_ret; refine ⟨ret_bool ?_, gRw⟩; refine (valid_false hlt ?_).symm; first | (refine vstep_f1 Hr.out ?_; omega) | (refine vstep_f2 Hr.out ?_; assumption) | (refine vstep_f3 Hr.out Hq.out ?_ ?_ <;> omega))
        | (go_roundw
           case rel =>
             refine ⟨k + 1, by omega, by go_num, validTo_succ hval.out (vstep_t Hr.out Hq.out (by omega) (by assumption) (by omega)), ⟨_, gRw⟩, rfl⟩
           case measure => simp [intOf]; omega)
    · go_wp2
      go_ret
      have : k = l.length := by omega
      exact ⟨ret_bool (by rw [valid, ← this]; exact hval.out.symm), gRw⟩
end Go.Proofs.YtneelidbgigehaaGreat
/- What join returns: the joined runs. -/
namespace Go.Proofs.YtneelidbgigehaaGreat
set_option linter.unusedSimpArgs false
set_option linter.unusedVariables false
open Go.RowKit Runs
attribute [local go_sem] Kin.cell Kin.frozen
theorem infoRun : (Tryz.prog.info? 69).map (fun i => (i.zero, i.size, i.bytes)) = some (some (.agg #[.int .i64 0, .int .i64 0]), 2, 16) := by kernel_rfl
theorem encRun_len (r : Run) : (encRun r).length = 2 := rfl
theorem set_last (E : List Run) (q : Run) (x : Int) : ((E ++ [q]).flatMap encRun).set (E.length * 2 + 1) (.int .i64 x) = (E ++ [(q.1, x)]).flatMap encRun := by
  rw [List.flatMap_append, List.flatMap_append, List.set_append_right _ _ (by rw [flat_len encRun_len]; omega), flat_len encRun_len, show E.length * 2 + 1 - E.length * 2 = 1 by omega]
  rfl
end Go.Proofs.YtneelidbgigehaaGreat
/- What the chapter's definitions on runs return: insert, bounds, in. -/
namespace Go.Proofs.YtneelidbgigehaaGreat
set_option linter.unusedSimpArgs false
set_option linter.unusedVariables false
open Go.RowKit Runs
attribute [local go_sem] Kin.cell Kin.frozen Kin.lt0 Kin.lt1 Kin.lt2
theorem oneR : OneC encRun := fun x u hu => by simp [encRun] at hu; rcases hu with rfl | rfl <;> rfl
theorem mem_hit {l : List Run} {k : Nat} {r : Run} {x : Int} (h : l[k]? = some r) (h1 : r.1 ≤ x) (h2 : x < r.2) : mem l x = true := mem_iff.2 ⟨r, List.mem_of_getElem? h, h1, h2⟩
theorem mem_take_no {l : List Run} {k : Nat} {r : Run} {x : Int} (h : l[k]? = some r) (hm : mem (l.take k) x = false) (h1 : ¬ (r.1 ≤ x ∧ x < r.2)) : mem (l.take (k + 1)) x = false := by
  rw [List.take_add_one, h, mem_append, hm]
  simp [mem, inR]; omega
theorem Rd.take {α : Type} {k : Nat} {enc : α → List Value} {W : World} {A : Option Addr} {n c m : Nat} {xs : List α} (h : Rd k enc W (.slice A n c) xs) (hm : m ≤ n) : Rd k enc W (.slice A m c) (xs.take m) := by
  obtain ⟨A', cap, hv, hc, h⟩ := h
  injection hv with h1 h2 h3
  subst h1 h2 h3
  refine ⟨A, c, by rw [List.length_take, Nat.min_eq_left hm], by rw [List.length_take]; omega, ?_⟩
  rcases h with h | ⟨b, off, hA, hlt, hc⟩
  · left; subst h; simp
  · right; refine ⟨b, off, hA, hlt, fun i x hx => hc i x ?_⟩
    rw [List.getElem?_take] at hx
    split at hx
    · exact hx
    · cases hx
end Go.Proofs.YtneelidbgigehaaGreat

/- What Contains, Length, Shift, Grow and Shrink return. (joined: RunsFns RunsRef2) -/
/- What Contains, Length, Shift, Grow and Shrink return. -/
namespace Go.Proofs.YtneelidbgigehaaGreat
set_option linter.unusedSimpArgs false
set_option linter.unusedVariables false
open Go.RowKit Runs
attribute [local go_sem] Kin.cell Kin.frozen Kin.lt0 Kin.lt1 Kin.lt2 Kin.lt3 run_mkf
def sumL (l : List Run) : Int := (l.map fun r => r.2 - r.1).sum
theorem sumL_succ {l : List Run} {k : Nat} {r : Run} (h : l[k]? = some r) : sumL (l.take (k + 1)) = sumL (l.take k) + (r.2 - r.1) := by
  unfold sumL; rw [List.take_add_one, h]; simp [List.sum_append]
theorem valid_fits {l : List Run} (hv : valid l = true) {k : Nat} {r : Run} (h : l[k]? = some r) : -1048576 ≤ r.1 ∧ r.1 ≤ 1048576 ∧ -1048576 ≤ r.2 ∧ r.2 ≤ 1048576 ∧ r.1 < r.2 := by
  have h1 := (valid_iff.1 hv).2 r (List.mem_of_getElem? h)
  have h2 := (valid_iff.1 hv).1.1 r (List.mem_of_getElem? h)
  simp [fits] at h1
  omega
end Go.Proofs.YtneelidbgigehaaGreat
/- What the chapter's definitions on runs return: Valid, Normal, Norm, Length, Contains, Same; and the first runs of a list. -/
namespace Go.Proofs.YtneelidbgigehaaGreat
set_option linter.unusedSimpArgs false
set_option linter.unusedVariables false
open Go.RowKit Runs
attribute [local go_sem] Kin.cell Kin.frozen Kin.lt0 Kin.lt1 Kin.lt2 Kin.lt3 run_mkf
theorem run_neqRun (p q : Run) (w : World) : (binOp .neq 69 (.agg #[.int .i64 p.1, .int .i64 p.2]) (.agg #[.int .i64 q.1, .int .i64 q.2])).run Tryz.prog w = .ok (.bool (!eqp p q)) w := by
  by_cases h1 : p.1 = q.1 <;> by_cases h2 : p.2 = q.2 <;> simp [go_sem, eqp, h1, h2]
end Go.Proofs.YtneelidbgigehaaGreat

/- How many cells a region has. (joined: RegMath3 RegCellsM) -/
/- How many cells a region has. -/
namespace Go.Proofs.YtneelidbgigehaaGreat
set_option linter.unusedSimpArgs false
set_option linter.unusedVariables false
namespace Reg
open Runs
theorem sumL_nil : sumL [] = 0 := rfl
theorem sumL_cons (r : Run) (l : List Run) : sumL (r :: l) = (r.2 - r.1) + sumL l := rfl
theorem sumL_in {l : List Run} (h : SepIn l) : 0 ≤ sumL l ∧ sumL l ≤ 8192 := by
  have : ∀ (l : List Run) (lo : Int), SepIn l → lo ≤ 4096 → (∀ r ∈ l, lo ≤ r.1) → 0 ≤ sumL l ∧ sumL l ≤ 4096 - lo := by
    intro l
    induction l with
    | nil => intro lo _ h _; rw [sumL_nil]; omega
    | cons r l ih =>
      intro lo h h0 hlo
      obtain ⟨h1, h2, h3⟩ := sep_cons.1 h.1
      have h4 := h.2 r (by simp)
      have h5 := hlo r (by simp)
      have := ih r.2 ⟨h3, fun q hq => h.2 q (by simp [hq])⟩ (by omega) (fun q hq => by have := h2 q hq; omega)
      rw [sumL_cons]
      omega
  have := this l (-4096) h (by omega) (fun r hr => (h.2 r hr).1)
  omega
theorem sepIn_take {l : List Run} (h : SepIn l) (k : Nat) : SepIn (l.take k) :=
  ⟨⟨fun r hr => h.1.1 r (List.mem_of_mem_take hr), h.1.2.sublist (List.take_sublist _ _)⟩, fun r hr => h.2 r (List.mem_of_mem_take hr)⟩
def sumR (rows : List Row) : Int := (rows.map fun w => sumL w.2).sum
theorem sumR_succ {rows : List Row} {k : Nat} {w : Row} (h : rows[k]? = some w) : sumR (rows.take (k + 1)) = sumR (rows.take k) + sumL w.2 := by
  unfold sumR; rw [List.take_add_one, h]; simp [List.sum_append]
theorem sumR_bd {rows : List Row} (h : VReg rows) : ∀ k, k ≤ rows.length → 0 ≤ sumR (rows.take k) ∧ sumR (rows.take k) ≤ 8192 * k := by
  intro k
  induction k with
  | zero => intro _; simp [sumR]
  | succ k ih =>
    intro hk
    have hw : rows[k]? = some rows[k] := List.getElem?_eq_getElem (by omega)
    have := ih (by omega)
    have := sumL_in (fine_sepIn.1 (h.1 _ (List.getElem_mem (by omega : k < rows.length))).2).1
    rw [sumR_succ hw]
    omega
def cntR (rows : List Row) : Int := if rvalid rows then sumR rows else 0
end Reg
end Go.Proofs.YtneelidbgigehaaGreat
/- The cells of a region as a list; with no program in sight. -/
namespace Go.Proofs.YtneelidbgigehaaGreat
set_option linter.unusedSimpArgs false
set_option linter.unusedVariables false
namespace Reg
open Runs
/-- the first n cells of a run in the row y -/
def runC (y : Int) (r : Run) (n : Nat) : List (Int × Int) := (List.range n).map fun (k : Nat) => (r.1 + (k : Int), y)
def runCells (y : Int) (r : Run) : List (Int × Int) := runC y r (r.2 - r.1).toNat
def rowCells (w : Row) (k : Nat) : List (Int × Int) := (w.2.take k).flatMap (runCells w.1)
def cellsTo (rows : List Row) (i : Nat) : List (Int × Int) := (rows.take i).flatMap fun w => w.2.flatMap (runCells w.1)
def cellsR (rows : List Row) : List (Int × Int) := if rvalid rows then cellsTo rows rows.length else []
theorem runC_len (y : Int) (r : Run) (n : Nat) : (runC y r n).length = n := by simp [runC]
theorem cellsTo_succ {rows : List Row} {i : Nat} {w : Row} (h : rows[i]? = some w) : cellsTo rows (i + 1) = cellsTo rows i ++ rowCells w w.2.length := by
  unfold cellsTo rowCells; rw [List.take_add_one, h, List.take_length]; simp
theorem runCells_len {y : Int} {r : Run} (h : r.1 < r.2) : ((runCells y r).length : Int) = r.2 - r.1 := by rw [runCells, runC_len]; omega
theorem rowCells_len {w : Row} (h : SepIn w.2) (k : Nat) : ((rowCells w k).length : Int) = sumL (w.2.take k) := by
  have : ∀ l : List Run, (∀ r ∈ l, r.1 < r.2) → ((l.flatMap (runCells w.1)).length : Int) = sumL l := by
    intro l
    induction l with
    | nil => intro _; simp [sumL]
    | cons r l ih =>
      intro hl
      rw [List.flatMap_cons, List.length_append, sumL_cons]
      have h1 := runCells_len (y := w.1) (hl r (by simp))
      have h2 := ih (fun q hq => hl q (by simp [hq]))
      push_cast
      omega
  exact this _ fun r hr => h.1.1 r (List.mem_of_mem_take hr)
theorem cellsTo_len {rows : List Row} (h : VReg rows) : ∀ i, i ≤ rows.length → ((cellsTo rows i).length : Int) = sumR (rows.take i) := by
  intro i
  induction i with
  | zero => intro _; simp [cellsTo, sumR]
  | succ i ih =>
    intro hi
    have hw : rows[i]? = some rows[i] := List.getElem?_eq_getElem (by omega)
    have h1 := ih (by omega)
    have h2 := rowCells_len (fine_sepIn.1 (h.1 _ (List.getElem_mem (by omega : i < rows.length))).2).1 rows[i].2.length
    rw [List.take_length] at h2
    rw [cellsTo_succ hw, sumR_succ hw, List.length_append]
    push_cast
    omega
theorem cellsR_len (rows : List Row) : ((cellsR rows).length : Int) = cntR rows := by
  unfold cellsR cntR
  split
  · rename_i h
    rw [cellsTo_len (rvalid_iff.1 h) _ (Nat.le_refl _), List.take_length]
  · rfl
theorem mem_runCells {y : Int} {r : Run} {c : Int × Int} : c ∈ runCells y r ↔ c.2 = y ∧ r.1 ≤ c.1 ∧ c.1 < r.2 := by
  unfold runCells runC
  rw [List.mem_map]
  constructor
  · rintro ⟨k, hk, rfl⟩
    rw [List.mem_range] at hk
    exact ⟨rfl, (show r.1 ≤ r.1 + (k : Int) by omega), (show r.1 + (k : Int) < r.2 by omega)⟩
  · rintro ⟨h1, h2, h3⟩
    refine ⟨(c.1 - r.1).toNat, by rw [List.mem_range]; omega, ?_⟩
    apply Prod.ext
    · simp; omega
    · exact h1.symm
theorem mem_cellsR {rows : List Row} {c : Int × Int} : c ∈ cellsR rows ↔ rvalid rows = true ∧ memC rows c.1 c.2 = true := by
  unfold cellsR
  split
  · rename_i h
    rw [cellsTo, List.take_length, memC_iff]
    simp only [h, true_and, List.mem_flatMap, mem_runCells, mem_iff]
    constructor
    · rintro ⟨w, hw, r, hr, h1, h2, h3⟩; exact ⟨w, hw, h1.symm, r, hr, h2, h3⟩
    · rintro ⟨w, hw, h1, r, hr, h2, h3⟩; exact ⟨w, hw, r, hr, h1.symm, h2, h3⟩
  · rename_i h
    simp [h]
theorem runC_nodup (y : Int) (r : Run) (n : Nat) : (runC y r n).Nodup := by
  unfold runC
  rw [List.nodup_iff_pairwise_ne, List.pairwise_map]
  refine List.Pairwise.imp ?_ (List.nodup_iff_pairwise_ne.1 List.nodup_range)
  intro a b hab h
  apply hab
  have := congrArg Prod.fst h
  simp at this
  omega
theorem flat_nodup {α β : Type} {l : List α} {f : α → List β} (h1 : ∀ a ∈ l, (f a).Nodup) (h2 : l.Pairwise fun a b => ∀ x ∈ f a, x ∉ f b) : (l.flatMap f).Nodup := by
  induction l with
  | nil => simp
  | cons a l ih =>
    obtain ⟨h3, h4⟩ := List.pairwise_cons.1 h2
    rw [List.flatMap_cons, List.nodup_append]
    refine ⟨h1 a (by simp), ih (fun b hb => h1 b (by simp [hb])) h4, fun x hx y hy hxy => ?_⟩
    subst hxy
    obtain ⟨b, hb, hy⟩ := List.mem_flatMap.1 hy
    exact h3 b hb x hx hy
theorem cellsR_nodup (rows : List Row) : (cellsR rows).Nodup := by
  unfold cellsR
  split
  · rename_i h
    have hv := rvalid_iff.1 h
    rw [cellsTo, List.take_length]
    refine flat_nodup (fun w hw => flat_nodup (fun r hr => runC_nodup _ _ _) ?_) ?_
    · have hs := (fine_sepIn.1 (hv.1 w hw).2).1.1
      refine List.Pairwise.imp ?_ hs.2
      intro a b hab x hx hy
      have := mem_runCells.1 hx
      have := mem_runCells.1 hy
      omega
    · refine List.Pairwise.imp ?_ hv.2
      intro a b hab x hx hy
      obtain ⟨r, _, hx⟩ := List.mem_flatMap.1 hx
      obtain ⟨q, _, hy⟩ := List.mem_flatMap.1 hy
      have := (mem_runCells.1 hx).1
      have := (mem_runCells.1 hy).1
      omega
  · exact List.nodup_nil
end Reg
end Go.Proofs.YtneelidbgigehaaGreat

/- Regions in memory: rows, each with a slice of runs. -/
namespace Go.Proofs.YtneelidbgigehaaGreat
set_option linter.unusedSimpArgs false
set_option linter.unusedVariables false
open Go.RowKit Runs
/-- a row as it lies in memory: its Y and the slice of its runs -/
abbrev RowH := Int × Option Addr × Nat × Nat
def rsl (h : RowH) : Value := .slice h.2.1 h.2.2.1 h.2.2.2
def encRow (h : RowH) : List Value := [.int .i64 h.1, .slice h.2.1 h.2.2.1 h.2.2.2]
theorem encRow_len (h : RowH) : (encRow h).length = 2 := rfl
theorem oneRow : OneC encRow := fun x u hu => by simp [encRow] at hu; rcases hu with rfl | rfl <;> rfl
def rtag (h : RowH) (w : Reg.Row) : Prop := h.1 = w.1
abbrev RdRows (W : World) (v : Value) (rows : List Reg.Row) : Prop := RdN 2 encRow rsl rtag 2 encRun (fun w : Reg.Row => w.2) W v rows
/-- a region: a struct of the one slice -/
def RdReg (W : World) (v : Value) (rows : List Reg.Row) : Prop := ∃ s, v = .agg #[s] ∧ RdRows W s rows
theorem RdReg.below {W W' : World} {v : Value} {rows : List Reg.Row} (h : RdReg W v rows) (hb : Below W.heap.size W W') : RdReg W' v rows := by
  obtain ⟨s, h1, h2⟩ := h
  exact ⟨s, h1, h2.below hb⟩
theorem RdReg.nil {W : World} : RdReg W (.agg #[.slice none 0 0]) [] := ⟨_, rfl, RdN.nil⟩
theorem rows_each {W : World} {b off : Nat} {rows : List Reg.Row}
    (h : ∀ (i : Nat) (x : Reg.Row), rows[i]? = some x → ∃ h : RowH, rtag h x ∧ Rd 2 encRun W (rsl h) x.2 ∧ ∀ (j : Nat) (u : Value), (encRow h)[j]? = some u → W.cell? ⟨b, off + i * 2 + j, none⟩ = some u) :
    ∀ (i : Nat) (w : Reg.Row), rows[i]? = some w → ∃ (S : Option Addr) (c : Nat), W.cell? ⟨b, off + i * 2, none⟩ = some (.int .i64 w.1) ∧ W.cell? ⟨b, off + i * 2 + 1, none⟩ = some (.slice S w.2.length c) ∧ w.2.length ≤ c ∧ Rd 2 encRun W (.slice S w.2.length c) w.2 := by
  intro i w hw
  obtain ⟨⟨y, S, n, c⟩, ht, hr, hc⟩ := h i w hw
  obtain ⟨S', c', e, hle, _⟩ := hr.open_
  unfold rsl at e hr
  injection e with e1 e2 e3
  simp only at e1 e2 e3 hr
  subst e1 e2 e3
  refine ⟨S, c, ?_, hc 1 _ rfl, hle, hr⟩
  have := hc 0 _ rfl
  rw [show y = w.1 from ht] at this
  exact this
theorem rows_open {W : World} {s : Value} {rows : List Reg.Row} (h : RdRows W s rows) : ∃ (A : Option Addr) (cap : Nat), s = .slice A rows.length cap ∧ rows.length ≤ cap ∧
    ∀ (i : Nat) (w : Reg.Row), rows[i]? = some w → ∃ b off, A = some ⟨b, off, none⟩ ∧ b < W.heap.size ∧
      ∀ (i : Nat) (w : Reg.Row), rows[i]? = some w → ∃ (S : Option Addr) (c : Nat), W.cell? ⟨b, off + i * 2, none⟩ = some (.int .i64 w.1) ∧ W.cell? ⟨b, off + i * 2 + 1, none⟩ = some (.slice S w.2.length c) ∧ w.2.length ≤ c ∧ Rd 2 encRun W (.slice S w.2.length c) w.2 := by
  obtain ⟨A, cap, hv, hc, ho⟩ := RdN.open_ h
  refine ⟨A, cap, hv, hc, fun i w hw => ?_⟩
  obtain ⟨b, off, hA, hb, hcell⟩ := ho i w hw
  exact ⟨b, off, hA, hb, rows_each hcell⟩
end Go.Proofs.YtneelidbgigehaaGreat

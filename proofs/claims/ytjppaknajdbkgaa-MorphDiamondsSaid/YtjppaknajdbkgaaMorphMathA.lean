/- What the window's rows contain; with no program in sight. (joined: MorphMath MorphMath2 MorphMath3) -/
import Derived.Test.YtjppaknajdbkgaaMorphKitA
import Derived.Test.YtjppaknajdbkgaaRegOper
import Derived.Test.YtjppaknajdbkgaaRunsMoves
/- What the window's rows contain; with no program in sight. -/
namespace Go.Proofs.Ytjppaknajdbkgaa
set_option linter.unusedSimpArgs false
set_option linter.unusedVariables false
open Runs Reg
theorem winTo_spec {g : Int → List Run} (hg : ∀ j, valid (g j) = true) (y k : Int) : ∀ m, valid (winTo g y k m) = true ∧ ∀ x, mem (winTo g y k m) x = true ↔ ∃ j : Int, y - k ≤ j ∧ j ≤ y - k + m ∧ mem (g j) x = true
  | 0 => ⟨hg _, fun x => ⟨fun h => ⟨y - k, by omega, by omega, h⟩, fun ⟨j, h1, h2, h3⟩ => by
      have : j = y - k := by omega
      subst this; exact h3⟩⟩
  | m + 1 => by
    have ih := winTo_spec hg y k m
    have h := setop_spec 2 ih.1 (hg (y - k + 1 + m))
    refine ⟨h.1, fun x => ?_⟩
    rw [winTo, h.2 x]
    have e : opf 2 (mem (winTo g y k m) x) (mem (g (y - k + 1 + m)) x) = (mem (winTo g y k m) x || mem (g (y - k + 1 + m)) x) := rfl
    rw [e, Bool.or_eq_true, ih.2 x]
    constructor
    · rintro (⟨j, h1, h2, h3⟩ | h3)
      · exact ⟨j, h1, by omega, h3⟩
      · exact ⟨_, by omega, by omega, h3⟩
    · rintro ⟨j, h1, h2, h3⟩
      by_cases h4 : j ≤ y - k + m
      · exact .inl ⟨j, h1, h4, h3⟩
      · have : j = y - k + 1 + m := by omega
        subst this; exact .inr h3
/-- the cells of a window over grown rows -/
theorem win_grown {a : Int → List Run} {y k : Int} (ha : ∀ j, growE (a j) k = 0) (hk : 0 ≤ k) (x : Int) :
    mem (winTo (fun j => growL (a j) k) y k (2 * k).toNat) x = true ↔ ∃ j i : Int, y - k ≤ j ∧ j ≤ y + k ∧ x - k ≤ i ∧ i ≤ x + k ∧ mem (a j) i = true := by
  rw [(winTo_spec (fun j => grow_valid) y k _).2 x]
  constructor
  · rintro ⟨j, h1, h2, h3⟩
    obtain ⟨i, h4, h5, h6⟩ := (mem_grow (ha j) x).1 h3
    exact ⟨j, i, h1, by omega, by omega, by omega, h6⟩
  · rintro ⟨j, i, h1, h2, h3, h4, h5⟩
    exact ⟨j, h1, by omega, (mem_grow (ha j) x).2 ⟨i, by omega, by omega, h5⟩⟩
theorem grow_in {l : List Run} {k : Int} (h : SepIn l) (h0 : 0 ≤ k) (h1 : k ≤ 64) : growE l k = 0 := by
  have hv := sepIn_valid h
  unfold growE
  rw [if_pos (by simp [growOk, hv]; omega)]
  have hn : normOk (l.map (gr k)) = true := by
    unfold normOk
    rw [List.all_eq_true]
    intro x hx
    have hx' := hx
    try rw [full_gr hv h0] at hx'
    obtain ⟨r, hr, rfl⟩ := List.mem_map.1 hx'
    have := h.2 r hr
    have h2 := h.1.1 r hr
    show decide (-1048576 ≤ r.1 - k ∧ r.1 - k ≤ 1048576 ∧ -1048576 ≤ r.2 + k ∧ r.2 + k ≤ 1048576) = true
    rw [decide_eq_true_eq]; omega
  simp [normE, hn]
/-- the row y of the dilation -/
def dilW (rows : List Reg.Row) (k y : Int) : List Run := winTo (fun j => growL (rwAt rows j) k) y k (2 * k).toNat
theorem dilW_valid (rows : List Reg.Row) (k y : Int) : valid (dilW rows k y) = true := (winTo_spec (fun j => grow_valid) y k _).1
theorem dilW_mem {rows : List Reg.Row} (h : VReg rows) {k : Int} (h0 : 0 ≤ k) (h1 : k ≤ 64) (y x : Int) :
    mem (dilW rows k y) x = true ↔ ∃ j i : Int, y - k ≤ j ∧ j ≤ y + k ∧ x - k ≤ i ∧ i ≤ x + k ∧ memC rows i j = true := by
  unfold dilW
  rw [win_grown (fun j => grow_in (rwAt_in h j) h0 h1) h0]
  simp only [memC_rwAt h]
/-- what any normal form of the same cells is -/
theorem dilW_is {rows : List Reg.Row} (h : VReg rows) {k : Int} (h0 : 0 ≤ k) (h1 : k ≤ 64) {y : Int} {l : List Run} (hv : valid l = true)
    (hm : ∀ x, mem l x = true ↔ ∃ j i : Int, y - k ≤ j ∧ j ≤ y + k ∧ x - k ≤ i ∧ i ≤ x + k ∧ memC rows i j = true) : l = dilW rows k y :=
  valid_ext hv (dilW_valid rows k y) fun x => by rw [Bool.eq_iff_iff, hm x, dilW_mem h h0 h1]
/-- the n numbers from lo on -/
def upFrom (lo : Int) (n : Nat) : List Int := (List.range n).map fun j => lo + (j : Nat)
theorem upFrom_succ (lo : Int) (n : Nat) : upFrom lo (n + 1) = upFrom lo n ++ [lo + n] := by simp [upFrom, List.range_succ]
theorem upFrom_len (lo : Int) (n : Nat) : (upFrom lo n).length = n := by simp [upFrom]
theorem mem_upFrom {lo y : Int} {n : Nat} : y ∈ upFrom lo n ↔ lo ≤ y ∧ y < lo + n := by
  unfold upFrom
  rw [List.mem_map]
  constructor
  · rintro ⟨j, hj, rfl⟩
    have := List.mem_range.1 hj
    omega
  · rintro ⟨h1, h2⟩
    exact ⟨(y - lo).toNat, List.mem_range.2 (by omega), by omega⟩
theorem upFrom_asc (lo : Int) (n : Nat) : Asc (upFrom lo n) := by
  unfold Asc upFrom
  rw [List.pairwise_map]
  exact List.pairwise_lt_range.imp fun {a b} h => by omega
/-- the rows of the dilation, if it is in range -/
def dilRows (rows : List Reg.Row) (k : Int) : List Reg.Row :=
  rowsOn (dilW rows k) (upFrom ((boxR rows).1.2 - k) ((boxR rows).2.2 + k + 1 - ((boxR rows).1.2 - k)).toNat)
/-- the numbers of the errors: 0 is OK, 1 ErrArg, 8 ErrRange -/
def dilE (rows : List Reg.Row) (k : Int) : Int :=
  if (reachOk k && rvalid rows) = false then 1
  else if rows = [] then 0
  else if (boxR rows).1.1 - k < -4096 ∨ (boxR rows).1.2 - k < -4096 ∨ 4096 ≤ (boxR rows).2.1 + k ∨ 4096 ≤ (boxR rows).2.2 + k then 8 else 0
/-- the dilation -/
def dilR (rows : List Reg.Row) (k : Int) : List Reg.Row := if dilE rows k = 0 ∧ rows ≠ [] then dilRows rows k else []
theorem sep_first {l : List Run} (h : Sep l) {x : Int} (hm : mem l x = true) {e : Run} (he : l[0]? = some e) : e.1 ≤ x := by
  obtain ⟨r, hr, h1, h2⟩ := mem_iff.1 hm
  obtain ⟨i, hi, rfl⟩ := List.getElem_of_mem hr
  obtain ⟨h0, rfl⟩ := List.getElem?_eq_some_iff.1 he
  rcases Nat.eq_zero_or_pos i with h3 | h3
  · subst h3; exact h1
  · have := List.pairwise_iff_getElem.1 h.2 0 i h0 hi h3
    have h4 := h.1 _ (List.getElem_mem h0)
    omega
theorem sep_last {l : List Run} (h : Sep l) {x : Int} (hm : mem l x = true) {e : Run} (he : l[l.length - 1]? = some e) : x ≤ e.2 - 1 := by
  obtain ⟨r, hr, h1, h2⟩ := mem_iff.1 hm
  obtain ⟨i, hi, rfl⟩ := List.getElem_of_mem hr
  obtain ⟨h0, rfl⟩ := List.getElem?_eq_some_iff.1 he
  by_cases h3 : i = l.length - 1
  · subst h3; omega
  · have := List.pairwise_iff_getElem.1 h.2 i (l.length - 1) hi h0 (by omega)
    have h4 := h.1 _ (List.getElem_mem h0)
    omega
theorem bx_le {rows : List Reg.Row} {t : Nat} {w : Reg.Row} {e f : Run} (hw : rows[t]? = some w) (he : w.2[0]? = some e) (hf : w.2[w.2.length - 1]? = some f) : ∀ k, t < k → bxLo rows k ≤ e.1 ∧ f.2 - 1 ≤ bxHi rows k
  | 0, h => by omega
  | k + 1, h => by
    by_cases h1 : t = k
    · subst h1
      rw [bxLo_succ hw he, bxHi_succ hw hf]
      omega
    · have ih := bx_le hw he hf k (by omega)
      rw [bxLo, bxHi]
      omega
/-- cells lie within the bounds -/
theorem box_in {rows : List Reg.Row} (h : rvalid rows = true) {x y : Int} (hm : memC rows x y = true) : (boxR rows).1.1 ≤ x ∧ x ≤ (boxR rows).2.1 ∧ (boxR rows).1.2 ≤ y ∧ y ≤ (boxR rows).2.2 := by
  have hv := rvalid_iff.1 h
  obtain ⟨w, hw, h1, h2⟩ := memC_iff.1 hm
  obtain ⟨t, ht, rfl⟩ := List.getElem_of_mem hw
  have hn : rows ≠ [] := by intro e; subst e; exact absurd ht (by simp)
  have hf := fine_sepIn.1 (hv.1 _ hw).2
  have hp : 0 < rows[t].2.length := List.length_pos_iff.2 hf.2
  have ht2 : rows[t]? = some rows[t] := List.getElem?_eq_getElem ht
  have he : rows[t].2[0]? = some rows[t].2[0] := List.getElem?_eq_getElem hp
  have hl : rows[t].2[rows[t].2.length - 1]? = some rows[t].2[rows[t].2.length - 1] := List.getElem?_eq_getElem (by omega)
  have hb := bx_le ht2 he hl rows.length ht
  have a1 := sep_first hf.1.1 h2 he
  have a2 := sep_last hf.1.1 h2 hl
  have q0 : rows[0]? = some rows[0] := List.getElem?_eq_getElem (by omega)
  have q1 : rows[rows.length - 1]? = some rows[rows.length - 1] := List.getElem?_eq_getElem (by omega)
  have b1 : rows[0].1 ≤ y := by
    rcases Nat.eq_zero_or_pos t with h3 | h3
    · subst h3; omega
    · have := row_lt hv q0 ht2 h3; omega
  have b2 : y ≤ rows[rows.length - 1].1 := by
    by_cases h3 : t = rows.length - 1
    · subst h3; omega
    · have := row_lt hv ht2 q1 (by omega); omega
  have e : boxR rows = ((bxLo rows rows.length, rows[0].1), (bxHi rows rows.length, rows[rows.length - 1].1)) := by unfold boxR; rw [if_pos ⟨h, hn⟩, q0, q1]; rfl
  rw [e]
  simp only
  omega
theorem dilE_zero {rows : List Reg.Row} {k : Int} (h : dilE rows k = 0) : 0 ≤ k ∧ k ≤ 64 ∧ rvalid rows = true ∧ (rows ≠ [] → -4096 ≤ (boxR rows).1.1 - k ∧ -4096 ≤ (boxR rows).1.2 - k ∧ (boxR rows).2.1 + k < 4096 ∧ (boxR rows).2.2 + k < 4096) := by
  unfold dilE at h
  split at h
  · omega
  rename_i h1
  simp only [reachOk, Bool.not_eq_false, Bool.and_eq_true, decide_eq_true_eq] at h1
  refine ⟨h1.1.1, h1.1.2, h1.2, fun hn => ?_⟩
  rw [if_neg hn] at h
  split at h
  · omega
  · omega
theorem dilW_in {rows : List Reg.Row} {k : Int} (h : dilE rows k = 0) (hn : rows ≠ []) (y : Int) : SepIn (dilW rows k y) := by
  obtain ⟨h0, h1, hv, hb⟩ := dilE_zero h
  have hb := hb hn
  refine sepIn_of_mem (valid_iff.1 (dilW_valid rows k y)).1 fun x hx => ?_
  obtain ⟨j, i, _, _, h2, h3, h4⟩ := (dilW_mem (rvalid_iff.1 hv) h0 h1 y x).1 hx
  have := box_in hv h4
  omega
theorem dilRows_valid {rows : List Reg.Row} {k : Int} (h : dilE rows k = 0) (hn : rows ≠ []) : rvalid (dilRows rows k) = true := by
  obtain ⟨h0, h1, hv, hb⟩ := dilE_zero h
  have hb := hb hn
  refine rvalid_iff.2 (rowsOn_vreg (upFrom_asc _ _) (fun y hy => ?_) (fun y _ => dilW_in h hn y))
  have := mem_upFrom.1 hy
  unfold okC
  simp
  omega
theorem dilR_valid (rows : List Reg.Row) (k : Int) : rvalid (dilR rows k) = true := by
  unfold dilR
  split
  · rename_i h; exact dilRows_valid h.1 h.2
  · exact rvalid_nil
/-- a cell is in the dilation exactly if a cell within k of it is in the region -/
theorem dilR_mem {rows : List Reg.Row} {k : Int} (h : dilE rows k = 0) (x y : Int) : memC (dilR rows k) x y = true ↔ ∃ j i : Int, y - k ≤ j ∧ j ≤ y + k ∧ x - k ≤ i ∧ i ≤ x + k ∧ memC rows i j = true := by
  obtain ⟨h0, h1, hv, hb⟩ := dilE_zero h
  unfold dilR
  by_cases hn : rows = []
  · subst hn
    simp [memC_nil]
  · rw [if_pos ⟨h, hn⟩, dilRows, rowsOn_memC, Bool.and_eq_true, decide_eq_true_eq, dilW_mem (rvalid_iff.1 hv) h0 h1, mem_upFrom]
    refine ⟨fun h => h.2, fun h2 => ⟨?_, h2⟩⟩
    obtain ⟨j, i, h3, h4, _, _, h5⟩ := h2
    have := box_in hv h5
    omega
end Go.Proofs.Ytjppaknajdbkgaa
/- Erosions and diamonds; with no program in sight. -/
namespace Go.Proofs.Ytjppaknajdbkgaa
set_option linter.unusedSimpArgs false
set_option linter.unusedVariables false
open Runs Reg
/-- what the rows y - k, .., y - k + m have in common -/
def winI (g : Int → List Run) (y k : Int) : Nat → List Run
  | 0 => g (y - k)
  | m + 1 => setop (opf 1) (winI g y k m) (g (y - k + 1 + m))
theorem winI_spec {g : Int → List Run} (hg : ∀ j, valid (g j) = true) (y k : Int) : ∀ m, valid (winI g y k m) = true ∧ ∀ x, mem (winI g y k m) x = true ↔ ∀ j : Int, y - k ≤ j → j ≤ y - k + m → mem (g j) x = true
  | 0 => ⟨hg _, fun x => ⟨fun h j h1 h2 => by
      have : j = y - k := by omega
      subst this; exact h, fun h => h _ (by omega) (by omega)⟩⟩
  | m + 1 => by
    have ih := winI_spec hg y k m
    have h := setop_spec 1 ih.1 (hg (y - k + 1 + m))
    refine ⟨h.1, fun x => ?_⟩
    rw [winI, h.2 x]
    have e : opf 1 (mem (winI g y k m) x) (mem (g (y - k + 1 + m)) x) = (mem (winI g y k m) x && mem (g (y - k + 1 + m)) x) := rfl
    rw [e, Bool.and_eq_true, ih.2 x]
    constructor
    · rintro ⟨h1, h2⟩ j h3 h4
      by_cases h5 : j ≤ y - k + m
      · exact h1 j h3 h5
      · have : j = y - k + 1 + m := by omega
        subst this; exact h2
    · intro h1
      exact ⟨fun j h2 h3 => h1 j h2 (by omega), h1 _ (by omega) (by omega)⟩
/-- the row y of the erosion -/
def eroW (rows : List Reg.Row) (k y : Int) : List Run := winI (fun j => shrinkL (rwAt rows j) k) y k (2 * k).toNat
theorem eroW_valid (rows : List Reg.Row) (k y : Int) : valid (eroW rows k y) = true := (winI_spec (fun j => shrink_valid) y k _).1
theorem rwAt_valid {rows : List Reg.Row} (h : VReg rows) (j : Int) : valid (rwAt rows j) = true := sepIn_valid (rwAt_in h j)
theorem eroW_mem {rows : List Reg.Row} (h : VReg rows) {k : Int} (h0 : 0 ≤ k) (h1 : k ≤ 64) (y x : Int) :
    mem (eroW rows k y) x = true ↔ ∀ j i : Int, y - k ≤ j → j ≤ y + k → x - k ≤ i → i ≤ x + k → memC rows i j = true := by
  unfold eroW
  rw [(winI_spec (fun j => shrink_valid) y k _).2 x]
  constructor
  · intro h2 j i h3 h4 h5 h6
    rw [memC_rwAt h]
    exact (mem_shrink (rwAt_valid h j) h0 (by omega) x).1 (h2 j h3 (by omega)) i h5 h6
  · intro h2 j h3 h4
    refine (mem_shrink (rwAt_valid h j) h0 (by omega) x).2 fun i h5 h6 => ?_
    rw [← memC_rwAt h]
    exact h2 j i h3 (by omega) h5 h6
/-- what any normal form of the same cells is -/
theorem eroW_is {rows : List Reg.Row} (h : VReg rows) {k : Int} (h0 : 0 ≤ k) (h1 : k ≤ 64) {y : Int} {l : List Run} (hv : valid l = true)
    (hm : ∀ x, mem l x = true ↔ ∀ j i : Int, y - k ≤ j → j ≤ y + k → x - k ≤ i → i ≤ x + k → memC rows i j = true) : l = eroW rows k y :=
  valid_ext hv (eroW_valid rows k y) fun x => by rw [Bool.eq_iff_iff, hm x, eroW_mem h h0 h1]
theorem asc_rows {rows : List Reg.Row} (h : VReg rows) : Asc (rows.map (·.1)) := by
  unfold Asc
  rw [List.pairwise_map]
  exact h.2
theorem ok_rows {rows : List Reg.Row} (h : VReg rows) : ∀ y ∈ rows.map (·.1), okC y = true := by
  intro y hy
  obtain ⟨w, hw, rfl⟩ := List.mem_map.1 hy
  exact (h.1 w hw).1
/-- rows of a region that keep some of its cells -/
theorem keep_in {rows : List Reg.Row} (h : VReg rows) {g : Int → List Run} (hv : ∀ y, valid (g y) = true) (hm : ∀ x y, mem (g y) x = true → memC rows x y = true) (y : Int) : SepIn (g y) :=
  sepIn_of_mem (valid_iff.1 (hv y)).1 fun x hx => sepIn_mem (rwAt_in h y) (by rw [← memC_rwAt h]; exact hm x y hx)
theorem keep_valid {rows : List Reg.Row} (h : VReg rows) {g : Int → List Run} (hv : ∀ y, valid (g y) = true) (hm : ∀ x y, mem (g y) x = true → memC rows x y = true) : rvalid (rowsOn g (rows.map (·.1))) = true :=
  rvalid_iff.2 (rowsOn_vreg (asc_rows h) (ok_rows h) fun y _ => keep_in h hv hm y)
theorem keep_mem {rows : List Reg.Row} {g : Int → List Run} (hm : ∀ x y, mem (g y) x = true → memC rows x y = true) (x y : Int) : memC (rowsOn g (rows.map (·.1))) x y = mem (g y) x := by
  rw [rowsOn_memC]
  cases h : mem (g y) x
  · exact Bool.and_false _
  · rw [Bool.and_true, decide_eq_true_eq]
    exact memC_y (hm x y h)
/-- the erosion -/
def eroR (rows : List Reg.Row) (k : Int) : List Reg.Row := if reachOk k && rvalid rows then rowsOn (eroW rows k) (rows.map (·.1)) else []
theorem eroW_sub {rows : List Reg.Row} (h : VReg rows) {k : Int} (h0 : 0 ≤ k) (h1 : k ≤ 64) (x y : Int) (hm : mem (eroW rows k y) x = true) : memC rows x y = true :=
  (eroW_mem h h0 h1 y x).1 hm y x (by omega) (by omega) (by omega) (by omega)
theorem reach_iff {k : Int} : reachOk k = true ↔ 0 ≤ k ∧ k ≤ 64 := by simp [reachOk]
theorem eroR_valid (rows : List Reg.Row) (k : Int) : rvalid (eroR rows k) = true := by
  unfold eroR
  split
  · rename_i h
    rw [Bool.and_eq_true] at h
    have hk := reach_iff.1 h.1
    exact keep_valid (rvalid_iff.1 h.2) (eroW_valid rows k) (eroW_sub (rvalid_iff.1 h.2) hk.1 hk.2)
  · exact rvalid_nil
theorem eroR_mem {rows : List Reg.Row} {k : Int} (hk : reachOk k = true) (hv : rvalid rows = true) (x y : Int) :
    memC (eroR rows k) x y = true ↔ ∀ j i : Int, y - k ≤ j → j ≤ y + k → x - k ≤ i → i ≤ x + k → memC rows i j = true := by
  unfold eroR
  rw [if_pos (by rw [hk, hv]; rfl)]
  have h := reach_iff.1 hk
  rw [keep_mem (eroW_sub (rvalid_iff.1 hv) h.1 h.2), eroW_mem (rvalid_iff.1 hv) h.1 h.2]
/-- the rows y - m to y + m joined, each changed by what its distance leaves of k -/
def diaTo (n : Int) (c : List Run → Int → List Run) (g : Int → List Run) (y k : Int) : Nat → List Run
  | 0 => c (g y) k
  | m + 1 => setop (opf n) (setop (opf n) (diaTo n c g y k m) (c (g (y - ((m : Int) + 1))) (k - ((m : Int) + 1)))) (c (g (y + ((m : Int) + 1))) (k - ((m : Int) + 1)))
theorem dia_valid {n : Int} {c : List Run → Int → List Run} {g : Int → List Run} (hc : ∀ l k, valid (c l k) = true) (y k : Int) : ∀ m, valid (diaTo n c g y k m) = true
  | 0 => hc _ _
  | m + 1 => (setop_spec n (setop_spec n (dia_valid hc y k m) (hc _ _)).1 (hc _ _)).1
theorem diaU_mem {c : List Run → Int → List Run} {g : Int → List Run} (hc : ∀ l k, valid (c l k) = true) (y k x : Int) : ∀ m, mem (diaTo 2 c g y k m) x = true ↔ ∃ j : Int, y - m ≤ j ∧ j ≤ y + m ∧ mem (c (g j) (k - max (j - y) (y - j))) x = true
  | 0 => by
    constructor
    · intro h
      exact ⟨y, by omega, by omega, by rw [show k - max (y - y) (y - y) = k by omega]; exact h⟩
    · rintro ⟨j, h1, h2, h3⟩
      have : j = y := by omega
      subst this
      rw [show k - max (j - j) (j - j) = k by omega] at h3
      exact h3
  | m + 1 => by
    have ih := diaU_mem (g := g) hc y k x m
    have hv := dia_valid (n := 2) (g := g) hc y k m
    have s1 := setop_spec 2 hv (hc (g (y - ((m : Int) + 1))) (k - ((m : Int) + 1)))
    have s2 := setop_spec 2 s1.1 (hc (g (y + ((m : Int) + 1))) (k - ((m : Int) + 1)))
    rw [diaTo, s2.2 x, s1.2 x]
    show ((_ || _) || _) = true ↔ _
    rw [Bool.or_eq_true, Bool.or_eq_true, ih]
    constructor
    · rintro ((⟨j, h1, h2, h3⟩ | h) | h)
      · exact ⟨j, by omega, by omega, h3⟩
      · exact ⟨y - ((m : Int) + 1), by omega, by omega, by rw [show k - max (y - ((m : Int) + 1) - y) (y - (y - ((m : Int) + 1))) = k - ((m : Int) + 1) by omega]; exact h⟩
      · exact ⟨y + ((m : Int) + 1), by omega, by omega, by rw [show k - max (y + ((m : Int) + 1) - y) (y - (y + ((m : Int) + 1))) = k - ((m : Int) + 1) by omega]; exact h⟩
    · rintro ⟨j, h1, h2, h3⟩
      by_cases h4 : j = y - ((m : Int) + 1)
      · subst h4
        rw [show k - max (y - ((m : Int) + 1) - y) (y - (y - ((m : Int) + 1))) = k - ((m : Int) + 1) by omega] at h3
        exact .inl (.inr h3)
      · by_cases h5 : j = y + ((m : Int) + 1)
        · subst h5
          rw [show k - max (y + ((m : Int) + 1) - y) (y - (y + ((m : Int) + 1))) = k - ((m : Int) + 1) by omega] at h3
          exact .inr h3
        · exact .inl (.inl ⟨j, by omega, by omega, h3⟩)
theorem diaI_mem {c : List Run → Int → List Run} {g : Int → List Run} (hc : ∀ l k, valid (c l k) = true) (y k x : Int) : ∀ m, mem (diaTo 1 c g y k m) x = true ↔ ∀ j : Int, y - m ≤ j → j ≤ y + m → mem (c (g j) (k - max (j - y) (y - j))) x = true
  | 0 => by
    constructor
    · intro h j h1 h2
      have : j = y := by omega
      subst this
      rw [show k - max (j - j) (j - j) = k by omega]
      exact h
    · intro h
      have h3 := h y (by omega) (by omega)
      rw [show k - max (y - y) (y - y) = k by omega] at h3
      exact h3
  | m + 1 => by
    have ih := diaI_mem (g := g) hc y k x m
    have hv := dia_valid (n := 1) (g := g) hc y k m
    have s1 := setop_spec 1 hv (hc (g (y - ((m : Int) + 1))) (k - ((m : Int) + 1)))
    have s2 := setop_spec 1 s1.1 (hc (g (y + ((m : Int) + 1))) (k - ((m : Int) + 1)))
    rw [diaTo, s2.2 x, s1.2 x]
    show ((_ && _) && _) = true ↔ _
    rw [Bool.and_eq_true, Bool.and_eq_true, ih]
    constructor
    · rintro ⟨⟨h1, h2⟩, h3⟩ j h4 h5
      by_cases h6 : j = y - ((m : Int) + 1)
      · subst h6
        rw [show k - max (y - ((m : Int) + 1) - y) (y - (y - ((m : Int) + 1))) = k - ((m : Int) + 1) by omega]
        exact h2
      · by_cases h7 : j = y + ((m : Int) + 1)
        · subst h7
          rw [show k - max (y + ((m : Int) + 1) - y) (y - (y + ((m : Int) + 1))) = k - ((m : Int) + 1) by omega]
          exact h3
        · exact h1 j (by omega) (by omega)
    · intro h
      have h2 := h (y - ((m : Int) + 1)) (by omega) (by omega)
      have h3 := h (y + ((m : Int) + 1)) (by omega) (by omega)
      rw [show k - max (y - ((m : Int) + 1) - y) (y - (y - ((m : Int) + 1))) = k - ((m : Int) + 1) by omega] at h2
      rw [show k - max (y + ((m : Int) + 1) - y) (y - (y + ((m : Int) + 1))) = k - ((m : Int) + 1) by omega] at h3
      exact ⟨⟨fun j h4 h5 => h j (by omega) (by omega), h2⟩, h3⟩
/-- the row y of the dilation, or erosion, by diamonds -/
def dcrW (rows : List Reg.Row) (k y : Int) : List Run := diaTo 2 growL (rwAt rows) y k k.toNat
def ecrW (rows : List Reg.Row) (k y : Int) : List Run := diaTo 1 shrinkL (rwAt rows) y k k.toNat
theorem dcrW_valid (rows : List Reg.Row) (k y : Int) : valid (dcrW rows k y) = true := dia_valid (fun _ _ => grow_valid) y k _
theorem ecrW_valid (rows : List Reg.Row) (k y : Int) : valid (ecrW rows k y) = true := dia_valid (fun _ _ => shrink_valid) y k _
theorem dcrW_mem {rows : List Reg.Row} (h : VReg rows) {k : Int} (h0 : 0 ≤ k) (h1 : k ≤ 64) (y x : Int) :
    mem (dcrW rows k y) x = true ↔ ∃ j i : Int, max (j - y) (y - j) + max (i - x) (x - i) ≤ k ∧ memC rows i j = true := by
  unfold dcrW
  rw [diaU_mem (fun _ _ => grow_valid)]
  constructor
  · rintro ⟨j, h2, h3, h4⟩
    obtain ⟨i, h5, h6, h7⟩ := (mem_grow (grow_in (rwAt_in h j) (k := k - max (j - y) (y - j)) (by omega) (by omega)) x).1 h4
    exact ⟨j, i, by omega, by rw [memC_rwAt h]; exact h7⟩
  · rintro ⟨j, i, h2, h3⟩
    refine ⟨j, by omega, by omega, (mem_grow (grow_in (rwAt_in h j) (by omega) (by omega)) x).2 ⟨i, by omega, by omega, ?_⟩⟩
    rw [← memC_rwAt h]; exact h3
theorem ecrW_mem {rows : List Reg.Row} (h : VReg rows) {k : Int} (h0 : 0 ≤ k) (h1 : k ≤ 64) (y x : Int) :
    mem (ecrW rows k y) x = true ↔ ∀ j i : Int, max (j - y) (y - j) + max (i - x) (x - i) ≤ k → memC rows i j = true := by
  unfold ecrW
  rw [diaI_mem (fun _ _ => shrink_valid)]
  constructor
  · intro h2 j i h3
    rw [memC_rwAt h]
    exact (mem_shrink (rwAt_valid h j) (by omega) (by omega) x).1 (h2 j (by omega) (by omega)) i (by omega) (by omega)
  · intro h2 j h3 h4
    refine (mem_shrink (rwAt_valid h j) (by omega) (by omega) x).2 fun i h5 h6 => ?_
    rw [← memC_rwAt h]
    exact h2 j i (by omega)
theorem dcrW_is {rows : List Reg.Row} (h : VReg rows) {k : Int} (h0 : 0 ≤ k) (h1 : k ≤ 64) {y : Int} {l : List Run} (hv : valid l = true)
    (hm : ∀ x, mem l x = true ↔ ∃ j i : Int, max (j - y) (y - j) + max (i - x) (x - i) ≤ k ∧ memC rows i j = true) : l = dcrW rows k y :=
  valid_ext hv (dcrW_valid rows k y) fun x => by rw [Bool.eq_iff_iff, hm x, dcrW_mem h h0 h1]
def ecrR (rows : List Reg.Row) (k : Int) : List Reg.Row := if reachOk k && rvalid rows then rowsOn (ecrW rows k) (rows.map (·.1)) else []
theorem ecrW_sub {rows : List Reg.Row} (h : VReg rows) {k : Int} (h0 : 0 ≤ k) (h1 : k ≤ 64) (x y : Int) (hm : mem (ecrW rows k y) x = true) : memC rows x y = true :=
  (ecrW_mem h h0 h1 y x).1 hm y x (by omega)
theorem ecrR_valid (rows : List Reg.Row) (k : Int) : rvalid (ecrR rows k) = true := by
  unfold ecrR
  split
  · rename_i h
    rw [Bool.and_eq_true] at h
    have hk := reach_iff.1 h.1
    exact keep_valid (rvalid_iff.1 h.2) (ecrW_valid rows k) (ecrW_sub (rvalid_iff.1 h.2) hk.1 hk.2)
  · exact rvalid_nil
theorem ecrR_mem {rows : List Reg.Row} {k : Int} (hk : reachOk k = true) (hv : rvalid rows = true) (x y : Int) :
    memC (ecrR rows k) x y = true ↔ ∀ j i : Int, max (j - y) (y - j) + max (i - x) (x - i) ≤ k → memC rows i j = true := by
  unfold ecrR
  rw [if_pos (by rw [hk, hv]; rfl)]
  have h := reach_iff.1 hk
  rw [keep_mem (ecrW_sub (rvalid_iff.1 hv) h.1 h.2), ecrW_mem (rvalid_iff.1 hv) h.1 h.2]
/-- the rows of the dilation by diamonds, if it is in range -/
def dcrRows (rows : List Reg.Row) (k : Int) : List Reg.Row :=
  rowsOn (dcrW rows k) (upFrom ((boxR rows).1.2 - k) ((boxR rows).2.2 + k + 1 - ((boxR rows).1.2 - k)).toNat)
def dcrR (rows : List Reg.Row) (k : Int) : List Reg.Row := if dilE rows k = 0 ∧ rows ≠ [] then dcrRows rows k else []
theorem dcrW_in {rows : List Reg.Row} {k : Int} (h : dilE rows k = 0) (hn : rows ≠ []) (y : Int) : SepIn (dcrW rows k y) := by
  obtain ⟨h0, h1, hv, hb⟩ := dilE_zero h
  have hb := hb hn
  refine sepIn_of_mem (valid_iff.1 (dcrW_valid rows k y)).1 fun x hx => ?_
  obtain ⟨j, i, h2, h4⟩ := (dcrW_mem (rvalid_iff.1 hv) h0 h1 y x).1 hx
  have := box_in hv h4
  omega
theorem dcrRows_valid {rows : List Reg.Row} {k : Int} (h : dilE rows k = 0) (hn : rows ≠ []) : rvalid (dcrRows rows k) = true := by
  obtain ⟨h0, h1, hv, hb⟩ := dilE_zero h
  have hb := hb hn
  refine rvalid_iff.2 (rowsOn_vreg (upFrom_asc _ _) (fun y hy => ?_) (fun y _ => dcrW_in h hn y))
  have := mem_upFrom.1 hy
  unfold okC
  simp
  omega
theorem dcrR_valid (rows : List Reg.Row) (k : Int) : rvalid (dcrR rows k) = true := by
  unfold dcrR
  split
  · rename_i h; exact dcrRows_valid h.1 h.2
  · exact rvalid_nil
theorem dcrR_mem {rows : List Reg.Row} {k : Int} (h : dilE rows k = 0) (x y : Int) : memC (dcrR rows k) x y = true ↔ ∃ j i : Int, max (j - y) (y - j) + max (i - x) (x - i) ≤ k ∧ memC rows i j = true := by
  obtain ⟨h0, h1, hv, hb⟩ := dilE_zero h
  unfold dcrR
  by_cases hn : rows = []
  · subst hn
    simp [memC_nil]
  · rw [if_pos ⟨h, hn⟩, dcrRows, rowsOn_memC, Bool.and_eq_true, decide_eq_true_eq, dcrW_mem (rvalid_iff.1 hv) h0 h1, mem_upFrom]
    refine ⟨fun h => h.2, fun h2 => ⟨?_, h2⟩⟩
    obtain ⟨j, i, h3, h5⟩ := h2
    have := box_in hv h5
    omega
end Go.Proofs.Ytjppaknajdbkgaa
/- The laws of dilations and erosions; with no program in sight. -/
namespace Go.Proofs.Ytjppaknajdbkgaa
set_option linter.unusedSimpArgs false
set_option linter.unusedVariables false
open Runs Reg
/-- the bounds are reached -/
theorem row_ends {rows : List Reg.Row} (h : VReg rows) {k : Nat} (hk : k < rows.length) : ∃ (w : Reg.Row) (e f : Run), rows[k]? = some w ∧ w.2[0]? = some e ∧ w.2[w.2.length - 1]? = some f ∧ memC rows e.1 w.1 = true ∧ memC rows (f.2 - 1) w.1 = true ∧ -4096 ≤ e.1 ∧ e.1 < 4096 ∧ -4096 < f.2 ∧ f.2 ≤ 4096 := by
  have hr : rows[k]? = some rows[k] := List.getElem?_eq_getElem hk
  have hf := fine_sepIn.1 (h.1 _ (List.mem_of_getElem? hr)).2
  have hp : 0 < rows[k].2.length := List.length_pos_iff.2 hf.2
  have h0 : rows[k].2[0]? = some rows[k].2[0] := List.getElem?_eq_getElem hp
  have h1 : rows[k].2[rows[k].2.length - 1]? = some rows[k].2[rows[k].2.length - 1] := List.getElem?_eq_getElem (by omega)
  have m0 := sep_ends hf.1.1 (List.mem_of_getElem? h0)
  have m1 := sep_ends hf.1.1 (List.mem_of_getElem? h1)
  have b0 := sepIn_mem hf.1 m0.1
  have b1 := sepIn_mem hf.1 m1.2
  exact ⟨_, _, _, hr, h0, h1, memC_iff.2 ⟨_, List.mem_of_getElem? hr, rfl, m0.1⟩, memC_iff.2 ⟨_, List.mem_of_getElem? hr, rfl, m1.2⟩, by omega, by omega, by omega, by omega⟩
theorem bxLo_at {rows : List Reg.Row} (h : VReg rows) : ∀ k, k < rows.length → ∃ y, memC rows (bxLo rows (k + 1)) y = true
  | 0, hk => by
    obtain ⟨w, e, f, h1, h2, h3, h4, h5, h6⟩ := row_ends h hk
    rw [bxLo_succ h1 h2, bxLo, show min 4096 e.1 = e.1 by omega]
    exact ⟨_, h4⟩
  | k + 1, hk => by
    obtain ⟨w, e, f, h1, h2, h3, h4, h5, h6⟩ := row_ends h hk
    obtain ⟨y, hy⟩ := bxLo_at h k (by omega)
    rw [bxLo_succ h1 h2]
    by_cases hc : e.1 ≤ bxLo rows (k + 1)
    · rw [show min (bxLo rows (k + 1)) e.1 = e.1 by omega]; exact ⟨_, h4⟩
    · rw [show min (bxLo rows (k + 1)) e.1 = bxLo rows (k + 1) by omega]; exact ⟨_, hy⟩
theorem bxHi_at {rows : List Reg.Row} (h : VReg rows) : ∀ k, k < rows.length → ∃ y, memC rows (bxHi rows (k + 1)) y = true
  | 0, hk => by
    obtain ⟨w, e, f, h1, h2, h3, h4, h5, h6⟩ := row_ends h hk
    rw [bxHi_succ h1 h3, bxHi, show max (-4096) (f.2 - 1) = f.2 - 1 by omega]
    exact ⟨_, h5⟩
  | k + 1, hk => by
    obtain ⟨w, e, f, h1, h2, h3, h4, h5, h6⟩ := row_ends h hk
    obtain ⟨y, hy⟩ := bxHi_at h k (by omega)
    rw [bxHi_succ h1 h3]
    by_cases hc : bxHi rows (k + 1) ≤ f.2 - 1
    · rw [show max (bxHi rows (k + 1)) (f.2 - 1) = f.2 - 1 by omega]; exact ⟨_, h5⟩
    · rw [show max (bxHi rows (k + 1)) (f.2 - 1) = bxHi rows (k + 1) by omega]; exact ⟨_, hy⟩
theorem box_at {rows : List Reg.Row} (h : rvalid rows = true) (hn : rows ≠ []) :
    (∃ y, memC rows (boxR rows).1.1 y = true) ∧ (∃ x, memC rows x (boxR rows).1.2 = true) ∧ (∃ y, memC rows (boxR rows).2.1 y = true) ∧ ∃ x, memC rows x (boxR rows).2.2 = true := by
  have hv := rvalid_iff.1 h
  have hp : 0 < rows.length := List.length_pos_iff.2 hn
  obtain ⟨w, e, f, h1, h2, h3, h4, h5, h6⟩ := row_ends hv (k := 0) hp
  obtain ⟨w', e', f', h1', h2', h3', h4', h5', h6'⟩ := row_ends hv (k := rows.length - 1) (by omega)
  have e0 : boxR rows = ((bxLo rows rows.length, w.1), (bxHi rows rows.length, w'.1)) := by unfold boxR; rw [if_pos ⟨h, hn⟩, h1, h1']; rfl
  rw [e0]
  have a := bxLo_at hv (rows.length - 1) (by omega)
  have b := bxHi_at hv (rows.length - 1) (by omega)
  rw [show rows.length - 1 + 1 = rows.length by omega] at a b
  exact ⟨a, ⟨_, h4⟩, b, ⟨_, h4'⟩⟩
theorem dilE_bad {rows : List Reg.Row} {k : Int} (h : (reachOk k && rvalid rows) = false) : dilE rows k = 1 := by unfold dilE; rw [if_pos h]
theorem dilE_two {rows : List Reg.Row} {k : Int} (h : (reachOk k && rvalid rows) = true) : dilE rows k = 0 ∨ dilE rows k = 8 := by
  unfold dilE
  rw [if_neg (by rw [h]; simp)]
  split
  · exact .inl rfl
  · split
    · exact .inr rfl
    · exact .inl rfl
theorem dilE_iff {rows : List Reg.Row} {k : Int} : dilE rows k = 0 ↔ reachOk k = true ∧ rvalid rows = true ∧ ∀ x y, memC rows x y = true → -4096 ≤ x - k ∧ -4096 ≤ y - k ∧ x + k < 4096 ∧ y + k < 4096 := by
  constructor
  · intro h
    obtain ⟨h0, h1, hv, hb⟩ := dilE_zero h
    refine ⟨reach_iff.2 ⟨h0, h1⟩, hv, fun x y hm => ?_⟩
    have hn : rows ≠ [] := by intro e; subst e; simp [memC_nil] at hm
    have := hb hn
    have := box_in hv hm
    omega
  · rintro ⟨hk, hv, hb⟩
    unfold dilE
    rw [if_neg (by rw [hk, hv]; simp)]
    by_cases hn : rows = []
    · rw [if_pos hn]
    · rw [if_neg hn, if_neg]
      obtain ⟨⟨y1, a1⟩, ⟨x2, a2⟩, ⟨y3, a3⟩, ⟨x4, a4⟩⟩ := box_at hv hn
      have := hb _ _ a1
      have := hb _ _ a2
      have := hb _ _ a3
      have := hb _ _ a4
      omega
theorem dilE_eq {a b : List Reg.Row} {j k : Int} (h1 : (reachOk j && rvalid a) = true) (h2 : (reachOk k && rvalid b) = true) (h : dilE a j = 0 ↔ dilE b k = 0) : dilE a j = dilE b k := by
  have := dilE_two h1
  have := dilE_two h2
  omega
theorem reg_ext {a b : List Reg.Row} (ha : rvalid a = true) (hb : rvalid b = true) (h : ∀ x y, memC a x y = true ↔ memC b x y = true) : a = b :=
  vreg_ext (rvalid_iff.1 ha) (rvalid_iff.1 hb) fun x y => by rw [Bool.eq_iff_iff]; exact h x y
def subR (a b : List Reg.Row) : Prop := ∀ x y, memC a x y = true → memC b x y = true
theorem sub_refl (a : List Reg.Row) : subR a a := fun _ _ h => h
/-- whether a region lies within another one -/
def withinR (a b : List Reg.Row) : Bool := rvalid a && rvalid b && (rop (opf 0) a b).isEmpty
theorem rop0_iff {a b : List Reg.Row} (ha : rvalid a = true) (hb : rvalid b = true) : rop (opf 0) a b = [] ↔ subR a b := by
  have hs := rop_spec (opf_ff 0) ha hb
  constructor
  · intro h x y hx
    have := hs.2 x y
    rw [h, memC_nil, hx] at this
    cases hb : memC b x y
    · rw [hb] at this; simp [opf] at this
    · rfl
  · intro h
    refine (rop_eq (opf_ff 0) ha hb vreg_nil fun x y => ?_).symm
    rw [memC_nil]
    have := h x y
    cases h1 : memC a x y <;> cases h2 : memC b x y <;> simp_all [opf]
theorem within_iff {a b : List Reg.Row} (ha : rvalid a = true) (hb : rvalid b = true) : withinR a b = true ↔ subR a b := by
  unfold withinR
  rw [ha, hb, Bool.true_and, Bool.true_and, List.isEmpty_iff, rop0_iff ha hb]
/-- dilating and eroding are adjoint -/
theorem dil_adj {a b : List Reg.Row} {k : Int} (h : dilE a k = 0) (hb : rvalid b = true) : subR (dilR a k) b ↔ subR a (eroR b k) := by
  obtain ⟨hk, hv, _⟩ := dilE_iff.1 h
  constructor
  · intro h1 x y hx
    refine (eroR_mem hk hb x y).2 fun j i h2 h3 h4 h5 => h1 i j ((dilR_mem h i j).2 ⟨y, x, by omega, by omega, by omega, by omega, hx⟩)
  · intro h1 x y hx
    obtain ⟨j, i, h2, h3, h4, h5, h6⟩ := (dilR_mem h x y).1 hx
    exact (eroR_mem hk hb i j).1 (h1 i j h6) y x (by omega) (by omega) (by omega) (by omega)
theorem dcr_adj {a b : List Reg.Row} {k : Int} (h : dilE a k = 0) (hb : rvalid b = true) : subR (dcrR a k) b ↔ subR a (ecrR b k) := by
  obtain ⟨hk, hv, _⟩ := dilE_iff.1 h
  constructor
  · intro h1 x y hx
    refine (ecrR_mem hk hb x y).2 fun j i h2 => h1 i j ((dcrR_mem h i j).2 ⟨y, x, by omega, hx⟩)
  · intro h1 x y hx
    obtain ⟨j, i, h2, h6⟩ := (dcrR_mem h x y).1 hx
    exact (ecrR_mem hk hb i j).1 (h1 i j h6) y x (by omega)
theorem dil_mono {a b : List Reg.Row} {k : Int} (ha : dilE a k = 0) (hb : dilE b k = 0) (h : subR a b) : subR (dilR a k) (dilR b k) := fun x y hx => by
  obtain ⟨j, i, h2, h3, h4, h5, h6⟩ := (dilR_mem ha x y).1 hx
  exact (dilR_mem hb x y).2 ⟨j, i, h2, h3, h4, h5, h _ _ h6⟩
theorem ero_mono {a b : List Reg.Row} {k : Int} (hk : reachOk k = true) (ha : rvalid a = true) (hb : rvalid b = true) (h : subR a b) : subR (eroR a k) (eroR b k) := fun x y hx =>
  (eroR_mem hk hb x y).2 fun j i h2 h3 h4 h5 => h _ _ ((eroR_mem hk ha x y).1 hx j i h2 h3 h4 h5)
/-- the errors of Open and Close -/
theorem ero_near {r : List Reg.Row} {k : Int} (hk : reachOk k = true) (hv : rvalid r = true) : dilE (eroR r k) k = 0 := by
  have h := reach_iff.1 hk
  refine dilE_iff.2 ⟨hk, eroR_valid r k, fun x y hx => ?_⟩
  have hm := (eroR_mem hk hv x y).1 hx
  have b : ∀ i j, memC r i j = true → -4096 ≤ i ∧ i < 4096 ∧ -4096 ≤ j ∧ j < 4096 := fun i j hij => by
    obtain ⟨w, hw, h1, h2⟩ := memC_iff.1 hij
    have h3 := (rvalid_iff.1 hv).1 w hw
    have h4 := sepIn_mem (fine_sepIn.1 h3.2).1 h2
    have h5 := h3.1
    unfold okC at h5
    rw [decide_eq_true_eq] at h5
    omega
  have b1 := b _ _ (hm (y - k) (x - k) (by omega) (by omega) (by omega) (by omega))
  have b2 := b _ _ (hm (y + k) (x + k) (by omega) (by omega) (by omega) (by omega))
  omega
/-- Open and Close -/
def opnR (r : List Reg.Row) (k : Int) : List Reg.Row := dilR (eroR r k) k
def cloR (r : List Reg.Row) (k : Int) : List Reg.Row := if dilE r k = 0 then eroR (dilR r k) k else []
theorem opn_valid (r : List Reg.Row) (k : Int) : rvalid (opnR r k) = true := dilR_valid _ _
theorem clo_valid (r : List Reg.Row) (k : Int) : rvalid (cloR r k) = true := by
  unfold cloR; split
  · exact eroR_valid _ _
  · exact rvalid_nil
theorem opn_sub {r : List Reg.Row} {k : Int} (hk : reachOk k = true) (hv : rvalid r = true) : subR (opnR r k) r := (dil_adj (ero_near hk hv) hv).2 (sub_refl _)
theorem opn_again {r : List Reg.Row} {k : Int} (hk : reachOk k = true) (hv : rvalid r = true) : opnR (opnR r k) k = opnR r k := by
  refine reg_ext (opn_valid _ _) (opn_valid _ _) fun x y => ⟨opn_sub hk (opn_valid r k) x y, ?_⟩
  exact dil_mono (ero_near hk hv) (ero_near hk (opn_valid r k)) ((dil_adj (ero_near hk hv) (opn_valid r k)).1 (sub_refl _)) x y
theorem clo_sub {r : List Reg.Row} {k : Int} (h : dilE r k = 0) : subR r (cloR r k) := by
  unfold cloR
  rw [if_pos h]
  exact (dil_adj h (dilR_valid r k)).1 (sub_refl _)
theorem clo_near {r : List Reg.Row} {k : Int} (h : dilE r k = 0) : dilE (cloR r k) k = 0 := by
  unfold cloR
  rw [if_pos h]
  exact ero_near (dilE_iff.1 h).1 (dilR_valid r k)
theorem clo_again {r : List Reg.Row} {k : Int} (h : dilE r k = 0) : cloR (cloR r k) k = cloR r k := by
  have hk := (dilE_iff.1 h).1
  have e : cloR r k = eroR (dilR r k) k := by unfold cloR; rw [if_pos h]
  have h2 := clo_near h
  refine reg_ext (clo_valid _ _) (clo_valid _ _) fun x y => ⟨?_, clo_sub h2 x y⟩
  intro hx
  unfold cloR at hx
  rw [if_pos (show dilE (if dilE r k = 0 then eroR (dilR r k) k else []) k = 0 from h2), if_pos h] at hx
  rw [e]
  rw [e] at h2
  exact ero_mono hk (dilR_valid _ _) (dilR_valid _ _) (opn_sub hk (dilR_valid r k)) x y hx
/-- two steps are one -/
theorem ero_steps {r : List Reg.Row} {j k : Int} (hj : 0 ≤ j) (hk : 0 ≤ k) (hjk : j + k ≤ 64) : eroR (eroR r j) k = eroR r (j + k) := by
  have rj : reachOk j = true := reach_iff.2 ⟨hj, by omega⟩
  have rk : reachOk k = true := reach_iff.2 ⟨hk, by omega⟩
  have rs : reachOk (j + k) = true := reach_iff.2 ⟨by omega, hjk⟩
  refine reg_ext (eroR_valid _ _) (eroR_valid _ _) fun x y => ?_
  cases hv : rvalid r
  · have e1 : eroR r j = [] := by unfold eroR; rw [hv, Bool.and_false]; rfl
    have e2 : eroR r (j + k) = [] := by unfold eroR; rw [hv, Bool.and_false]; rfl
    have e3 : eroR [] k = [] := by unfold eroR; simp [rowsOn]
    rw [e1, e2, e3]
  · rw [eroR_mem rk (eroR_valid r j), eroR_mem rs hv]
    constructor
    · intro h p q h1 h2 h3 h4
      have hm := h (max (y - k) (min (y + k) p)) (max (x - k) (min (x + k) q)) (by omega) (by omega) (by omega) (by omega)
      exact (eroR_mem rj hv _ _).1 hm p q (by omega) (by omega) (by omega) (by omega)
    · intro h p q h1 h2 h3 h4
      exact (eroR_mem rj hv _ _).2 fun p2 q2 h5 h6 h7 h8 => h p2 q2 (by omega) (by omega) (by omega) (by omega)
theorem dil_stepsE {r : List Reg.Row} {j k : Int} (h : dilE r j = 0) (hk : 0 ≤ k) (hjk : j + k ≤ 64) : dilE (dilR r j) k = dilE r (j + k) := by
  obtain ⟨hj, hv, _⟩ := dilE_iff.1 h
  have hj := reach_iff.1 hj
  have rk : reachOk k = true := reach_iff.2 ⟨hk, by omega⟩
  have rs : reachOk (j + k) = true := reach_iff.2 ⟨by omega, hjk⟩
  refine dilE_eq (by rw [rk, dilR_valid]; rfl) (by rw [rs, hv]; rfl) ?_
  rw [dilE_iff, dilE_iff]
  constructor
  · rintro ⟨_, _, hb⟩
    refine ⟨rs, hv, fun x y hx => ?_⟩
    have h1 := hb (x - j) (y - j) ((dilR_mem h _ _).2 ⟨y, x, by omega, by omega, by omega, by omega, hx⟩)
    have h2 := hb (x + j) (y + j) ((dilR_mem h _ _).2 ⟨y, x, by omega, by omega, by omega, by omega, hx⟩)
    omega
  · rintro ⟨_, _, hb⟩
    refine ⟨rk, dilR_valid _ _, fun x y hx => ?_⟩
    obtain ⟨p, q, h1, h2, h3, h4, h5⟩ := (dilR_mem h _ _).1 hx
    have := hb _ _ h5
    omega
theorem dil_no {r : List Reg.Row} {k : Int} (h : dilE r k ≠ 0) : dilR r k = [] := by unfold dilR; rw [if_neg (fun e => h e.1)]
theorem dil_steps {r : List Reg.Row} {j k : Int} (h : dilE r j = 0) (hk : 0 ≤ k) (hjk : j + k ≤ 64) : dilR (dilR r j) k = dilR r (j + k) := by
  have hE := dil_stepsE h hk hjk
  have hj := reach_iff.1 (dilE_iff.1 h).1
  by_cases h0 : dilE r (j + k) = 0
  · refine reg_ext (dilR_valid _ _) (dilR_valid _ _) fun x y => ?_
    rw [dilR_mem (hE.trans h0), dilR_mem h0]
    constructor
    · rintro ⟨p, q, h1, h2, h3, h4, h5⟩
      obtain ⟨p2, q2, h6, h7, h8, h9, h10⟩ := (dilR_mem h _ _).1 h5
      exact ⟨p2, q2, by omega, by omega, by omega, by omega, h10⟩
    · rintro ⟨p, q, h1, h2, h3, h4, h5⟩
      exact ⟨max (y - k) (min (y + k) p), max (x - k) (min (x + k) q), by omega, by omega, by omega, by omega, (dilR_mem h _ _).2 ⟨p, q, by omega, by omega, by omega, by omega, h5⟩⟩
  · rw [dil_no (by rw [hE]; exact h0), dil_no h0]
/-- unions and intersections -/
theorem dil_unionE {a b : List Reg.Row} {k : Int} (ha : dilE a k = 0) (hb : dilE b k = 0) : dilE (rop (opf 2) a b) k = 0 := by
  obtain ⟨hk, va, ba⟩ := dilE_iff.1 ha
  obtain ⟨_, vb, bb⟩ := dilE_iff.1 hb
  refine dilE_iff.2 ⟨hk, rop_valid (opf_ff 2) _ _, fun x y hx => ?_⟩
  rw [(rop_spec (opf_ff 2) va vb).2 x y] at hx
  have : (memC a x y || memC b x y) = true := hx
  rw [Bool.or_eq_true] at this
  rcases this with h | h
  · exact ba x y h
  · exact bb x y h
theorem dil_union {a b : List Reg.Row} {k : Int} (ha : dilE a k = 0) (hb : dilE b k = 0) : dilR (rop (opf 2) a b) k = rop (opf 2) (dilR a k) (dilR b k) := by
  obtain ⟨hk, va, ba⟩ := dilE_iff.1 ha
  obtain ⟨_, vb, bb⟩ := dilE_iff.1 hb
  refine reg_ext (dilR_valid _ _) (rop_valid (opf_ff 2) _ _) fun x y => ?_
  rw [dilR_mem (dil_unionE ha hb), (rop_spec (opf_ff 2) (dilR_valid a k) (dilR_valid b k)).2 x y]
  show _ ↔ (_ || _) = true
  rw [Bool.or_eq_true, dilR_mem ha, dilR_mem hb]
  constructor
  · rintro ⟨j, i, h1, h2, h3, h4, h5⟩
    rw [(rop_spec (opf_ff 2) va vb).2 i j] at h5
    have : (memC a i j || memC b i j) = true := h5
    rw [Bool.or_eq_true] at this
    rcases this with h | h
    · exact .inl ⟨j, i, h1, h2, h3, h4, h⟩
    · exact .inr ⟨j, i, h1, h2, h3, h4, h⟩
  · rintro (⟨j, i, h1, h2, h3, h4, h5⟩ | ⟨j, i, h1, h2, h3, h4, h5⟩)
    · exact ⟨j, i, h1, h2, h3, h4, by rw [(rop_spec (opf_ff 2) va vb).2 i j, h5]; rfl⟩
    · exact ⟨j, i, h1, h2, h3, h4, by rw [(rop_spec (opf_ff 2) va vb).2 i j, h5]; show (_ || true) = true; rw [Bool.or_true]⟩
theorem ero_no {r : List Reg.Row} {k : Int} (h : (reachOk k && rvalid r) = false) : eroR r k = [] := by unfold eroR; rw [h]; rfl
theorem ero_nil (k : Int) : eroR [] k = [] := by unfold eroR; simp [rowsOn]
theorem rop1_nil (a : List Reg.Row) : rop (opf 1) a [] = [] := by
  cases hv : rvalid a
  · exact rop_bad (by rw [hv]; rfl)
  · exact (rop_eq (opf_ff 1) hv rvalid_nil vreg_nil fun x y => by rw [memC_nil]; show false = (_ && false); rw [Bool.and_false]).symm
theorem rop1_nil' (a : List Reg.Row) : rop (opf 1) [] a = [] := by
  cases hv : rvalid a
  · exact rop_bad (by rw [hv]; rfl)
  · exact (rop_eq (opf_ff 1) rvalid_nil hv vreg_nil fun x y => by rw [memC_nil]; rfl).symm
theorem ero_inter (a b : List Reg.Row) (k : Int) : eroR (rop (opf 1) a b) k = rop (opf 1) (eroR a k) (eroR b k) := by
  cases hk : reachOk k
  · rw [ero_no (by rw [hk]; rfl), ero_no (by rw [hk]; rfl), rop1_nil']
  cases va : rvalid a
  · rw [rop_bad (by rw [va]; rfl), ero_nil, ero_no (r := a) (by rw [va, Bool.and_false]), rop1_nil']
  cases vb : rvalid b
  · rw [rop_bad (by rw [vb, Bool.and_false]), ero_nil, ero_no (r := b) (by rw [vb, Bool.and_false]), rop1_nil]
  refine reg_ext (eroR_valid _ _) (rop_valid (opf_ff 1) _ _) fun x y => ?_
  rw [eroR_mem hk (rop_valid (opf_ff 1) _ _), (rop_spec (opf_ff 1) (eroR_valid a k) (eroR_valid b k)).2 x y]
  show _ ↔ (_ && _) = true
  rw [Bool.and_eq_true, eroR_mem hk va, eroR_mem hk vb]
  have e : ∀ i j, memC (rop (opf 1) a b) i j = (memC a i j && memC b i j) := fun i j => (rop_spec (opf_ff 1) va vb).2 i j
  simp only [e, Bool.and_eq_true]
  exact ⟨fun h => ⟨fun j i h1 h2 h3 h4 => (h j i h1 h2 h3 h4).1, fun j i h1 h2 h3 h4 => (h j i h1 h2 h3 h4).2⟩, fun h j i h1 h2 h3 h4 => ⟨h.1 j i h1 h2 h3 h4, h.2 j i h1 h2 h3 h4⟩⟩
/-- diamonds within squares within diamonds -/
theorem dcr_in_dil {r : List Reg.Row} {k : Int} (h : dilE r k = 0) : subR (dcrR r k) (dilR r k) := fun x y hx => by
  obtain ⟨j, i, h1, h2⟩ := (dcrR_mem h x y).1 hx
  exact (dilR_mem h x y).2 ⟨j, i, by omega, by omega, by omega, by omega, h2⟩
theorem dil_in_dcr {r : List Reg.Row} {k : Int} (h : dilE r k = 0) (h2 : dilE r (2 * k) = 0) : subR (dilR r k) (dcrR r (2 * k)) := fun x y hx => by
  obtain ⟨j, i, h3, h4, h5, h6, h7⟩ := (dilR_mem h x y).1 hx
  exact (dcrR_mem h2 x y).2 ⟨j, i, by omega, h7⟩
theorem ero_in_ecr {r : List Reg.Row} {k : Int} (hk : reachOk k = true) (hv : rvalid r = true) : subR (eroR r k) (ecrR r k) := fun x y hx =>
  (ecrR_mem hk hv x y).2 fun j i h => (eroR_mem hk hv x y).1 hx j i (by omega) (by omega) (by omega) (by omega)
theorem ecr_in_ero {r : List Reg.Row} {k : Int} (hk : reachOk k = true) (h2 : reachOk (2 * k) = true) (hv : rvalid r = true) : subR (ecrR r (2 * k)) (eroR r k) := fun x y hx =>
  (eroR_mem hk hv x y).2 fun j i h3 h4 h5 h6 => (ecrR_mem h2 hv x y).1 hx j i (by omega)
theorem dilE_less {r : List Reg.Row} {j k : Int} (h : dilE r k = 0) (h0 : 0 ≤ j) (h1 : j ≤ k) : dilE r j = 0 := by
  obtain ⟨hk, hv, hb⟩ := dilE_iff.1 h
  have hk := reach_iff.1 hk
  refine dilE_iff.2 ⟨reach_iff.2 ⟨h0, by omega⟩, hv, fun x y hx => ?_⟩
  have := hb x y hx
  omega
end Go.Proofs.Ytjppaknajdbkgaa

/- Lemmas: RunsMoves MorphMathA. -/
import Derived.Test.YtneelidbgigehaaGreatT08
import Derived.Test.YtneelidbgigehaaGreatT30
import Derived.Test.YtneelidbgigehaaGreatT03
import Derived.Test.YtneelidbgigehaaGreatT32
/- What Shift, Grow and Shrink return, of the program and of the chapter. (joined: RunsMoves RunsMoves2 RunsMath3) -/
/- What Shift, Grow and Shrink return, of the program and of the chapter. -/
namespace Go.Proofs.YtneelidbgigehaaGreat
set_option linter.unusedSimpArgs false
set_option linter.unusedVariables false
open Go.RowKit Runs
attribute [local go_sem] Kin.cell Kin.frozen Kin.lt0 Kin.lt1 Kin.lt2 Kin.lt3 run_mkf
/-- the runs that stay when each end comes k nearer -/
def shr (k : Int) (l : List Run) : List Run := (l.filter (fun r => decide (r.1 + k < r.2 - k))).map (fun r => (r.1 + k, r.2 - k))
def shrinkOk (l : List Run) (k : Int) : Bool := valid l && decide (0 ≤ k ∧ k ≤ 1048576)
def shrinkL (l : List Run) (k : Int) : List Run := if shrinkOk l k then shr k l else []
theorem shr_yes {l : List Run} {k : Int} {i : Nat} {r : Run} (h : l[i]? = some r) (hr : r.1 + k < r.2 - k) : shr k (l.take (i + 1)) = shr k (l.take i) ++ [(r.1 + k, r.2 - k)] := by
  unfold shr; rw [List.take_add_one, h, List.filter_append]; simp [hr]
theorem shr_no {l : List Run} {k : Int} {i : Nat} {r : Run} (h : l[i]? = some r) (hr : ¬ r.1 + k < r.2 - k) : shr k (l.take (i + 1)) = shr k (l.take i) := by
  unfold shr; rw [List.take_add_one, h, List.filter_append]; simp [hr]
theorem shr_len (l : List Run) (k : Int) (i : Nat) : (shr k (l.take i)).length ≤ i := by
  unfold shr; rw [List.length_map]
  exact Nat.le_trans (List.length_filter_le _ _) (List.length_take_le _ _)
set_option maxRecDepth 100000 in
set_option maxHeartbeats 4000000 in
theorem shrink_any (v : Value) (l : List Run) (k : Int) (w : World) (h : Rd 2 encRun w v l) (hlen : l.length ≤ 68719476736) :
    Calls Tryz.prog 71 #[v, .int .i64 k] w fun e w' => (∃ u, e = .returned u ∧ w'.ownsRow w.heap.size 69 2 u (shrinkL l k).length ((shrinkL l k).flatMap encRun)) ∧ Below w.heap.size w w' := by
  obtain ⟨A, capA, rfl, hcapA, hopA⟩ := h.open_
  have HA := Lib.hid hopA
  have HLA := Lib.hid h
  clear hopA h
  cases hv : valid l
  · go_enter Tryz.func71, Tryz.ntmps71
    go_wp2_with (go_at_call 53; first | ((with_reducible refine (Kin.call _ (valid_any _ l _ (HLA.out.below gRw) (by omega))).mono ?_); rintro e w' ⟨z, rfl, rfl⟩) | ((with_reducible refine (Kin.call0 (valid_any _ l _ (HLA.out.below gRw) (by omega))).mono ?_); rintro e w' ⟨z, rfl, rfl⟩))
    go_ret
    exact ⟨⟨_, rfl, by simp only [shrinkL, shrinkOk, hv]; exact World.ownsRow_nil _ _ _ _⟩, gRw⟩
  · by_cases hk : 0 ≤ k ∧ k ≤ 1048576
    · have hsl : shrinkL l k = shr k l := by simp [shrinkL, shrinkOk, hv, hk]
      rw [hsl]
      have hk1 := hk.1
      have hk2 := hk.2
      clear hk hsl
      go_enter Tryz.func71, Tryz.ntmps71
      go_wp2_with (go_at_call 53; first | ((with_reducible refine (Kin.call _ (valid_any _ l _ (HLA.out.below gRw) (by omega))).mono ?_); rintro e w' ⟨z, rfl, rfl⟩) | ((with_reducible refine (Kin.call0 (valid_any _ l _ (HLA.out.below gRw) (by omega))).mono ?_); rintro e w' ⟨z, rfl, rfl⟩))
      go_loopw [5, 21] (fun o i wr => ∃ n : Nat, n ≤ l.length ∧ i = .int .i64 n ∧ ∃ y : Kin w, y.1 = wr ∧ wr.ownsRow w.heap.size 69 2 o (shr k (l.take n)).length ((shr k (l.take n)).flatMap encRun)) (fun _ i _ => l.length - (intOf i).toNat)
      case atStart => exact ⟨0, Nat.zero_le _, rfl, z, rfl, World.ownsRow_nil _ _ _ _⟩
      case round =>
        obtain ⟨n, hn, rfl, y, rfl, hown⟩ := hrel
        have hE := shr_len l k n
        generalize hG : shr k (l.take n) = E at hown hE
        have HG := Lib.hid hG
        clear hG
        have hrdC := Rd.own encRun_len hown
        obtain ⟨C, capC, rfl, hcapC, _⟩ := hrdC.open_
        have HWC := Lib.hid hown
        clear hown hrdC
        by_cases hlt : n < l.length
        · obtain ⟨r, hr⟩ : ∃ el_, (l)[n]? = some el_ := ⟨_, List.getElem?_eq_getElem (by first | exact hlt | omega)⟩
          obtain ⟨bA, offA, rfl, hbA, hcA⟩ := HA.out (n) _ hr
          have r_0 : w.cell? ⟨bA, offA + n * 2, none⟩ = some (.int .i64 r.1) := by exact hcA (n) _ hr 0 _ rfl
          have r_1 : w.cell? ⟨bA, offA + n * 2 + 1, none⟩ = some (.int .i64 r.2) := by exact hcA (n) _ hr 1 _ rfl
          have hbA2 : bA < w.heap.size + 1 := by omega
          have HAc := Lib.hid hcA
          have Hr := Lib.hid hr
          clear hr hcA
          have hf := valid_fits hv Hr.out
          by_cases hc : r.1 + k < r.2 - k
          · go_wp2_with (at_builtin; refine wpList_app _ rfl _ _ 42 rfl encRun_len (by decide) oneR w.heap.size 69 (.agg #[.int .i64 0, .int .i64 0]) 16 infoRun rfl Tryz.underlying42 _ _ _ _ rfl ((HWC.out.alloc _).alloc _) _ _ _ rfl (rd_one _ encRun_len _ (r.1 + k, r.2 - k) _ rfl) ?c1 (by decide) ?c2 ?_; (case c1 => (first | (simp only [List.length_append, List.length_cons, List.length_nil]; omega) | omega | (simp; omega))); (case c2 => exact lEw); intro v' w1 hown' hg hbel hat'; (obtain ⟨y, rfl⟩ : ∃ y : Kin w, y.1 = w1 := ⟨⟨w1, Below.trans gRw hbel⟩, rfl⟩); clear hbel hg hat')
            go_roundw
            case rel => exact ⟨n + 1, by omega, by go_num, y, rfl, by rw [shr_yes Hr.out hc, HG.out]; exact hown'⟩
            case measure => simp [intOf]; omega
          · go_wp2
            go_roundw
            case rel => exact ⟨n + 1, by omega, by go_num, ⟨World.alloc _ _, gRw⟩, rfl, by rw [shr_no Hr.out hc, HG.out]; exact HWC.out.alloc _⟩
            case measure => simp [intOf]; omega
        · go_wp2
          go_ret
          have : n = l.length := by omega
          refine ⟨⟨_, rfl, ?_⟩, gRw⟩
          have e : shr k l = E := by rw [← HG.out, this, List.take_length]
          rw [e]; exact HWC.out
    · have hsl : shrinkL l k = [] := by simp [shrinkL, shrinkOk, hv, hk]
      rw [hsl]
      by_cases hk1 : k < 0
      all_goals
        go_enter Tryz.func71, Tryz.ntmps71
        go_wp2_with (go_at_call 53; first | ((with_reducible refine (Kin.call _ (valid_any _ l _ (HLA.out.below gRw) (by omega))).mono ?_); rintro e w' ⟨z, rfl, rfl⟩) | ((with_reducible refine (Kin.call0 (valid_any _ l _ (HLA.out.below gRw) (by omega))).mono ?_); rintro e w' ⟨z, rfl, rfl⟩))
        all_goals first
          | (exfalso; omega)
          | (go_ret; exact ⟨⟨_, rfl, World.ownsRow_nil _ _ _ _⟩, gRw⟩)
end Go.Proofs.YtneelidbgigehaaGreat
/- What Grow returns, and what the chapter's Shift, Grow and Shrink return. -/
namespace Go.Proofs.YtneelidbgigehaaGreat
set_option linter.unusedSimpArgs false
set_option linter.unusedVariables false
open Go.RowKit Runs
attribute [local go_sem] Kin.cell Kin.frozen Kin.lt0 Kin.lt1 Kin.lt2 Kin.lt3 run_mkf
def gr (k : Int) (r : Run) : Run := (r.1 - k, r.2 + k)
end Go.Proofs.YtneelidbgigehaaGreat
/- The laws of sets for lists of runs; Grow and Shrink are adjoint; with no program in sight. -/
namespace Go.Proofs.YtneelidbgigehaaGreat
set_option linter.unusedSimpArgs false
set_option linter.unusedVariables false
open Runs
theorem setop_spec (n : Int) {a b : List Run} (ha : valid a = true) (hb : valid b = true) : valid (setop (opf n) a b) = true ∧ ∀ x, mem (setop (opf n) a b) x = opf n (mem a x) (mem b x) := by
  have e : setop (opf n) a b = Runs.choose (opf n) a b := by simp [setop, ha, hb]
  rw [e]
  exact ⟨valid_choose (opf_ff n) ha hb, (choose_spec (opf_ff n) a b).2⟩
/-- how many of the n integers from lo on P holds of -/
def cnt (P : Int → Bool) (lo : Int) : Nat → Int
  | 0 => 0
  | n + 1 => cnt P lo n + if P (lo + n) then 1 else 0
section
variable {a b c : List Run} (ha : valid a = true) (hb : valid b = true) (hc : valid c = true)
include ha hb
include hc
end
theorem mem_shr {b : List Run} {k y : Int} (hb : valid b = true) (hk : 0 ≤ k) : mem (shr k b) y = true ↔ ∀ x, y - k ≤ x → x ≤ y + k → mem b x = true := by
  rw [mem_iff]
  unfold shr
  constructor
  · rintro ⟨q, hq, h1, h2⟩ x hx1 hx2
    obtain ⟨r, hr, rfl⟩ := List.mem_map.1 hq
    simp only at h1 h2
    exact mem_iff.2 ⟨r, (List.mem_filter.1 hr).1, by omega, by omega⟩
  · intro h
    obtain ⟨r, hr, h1, h2⟩ := mem_iff.1 (h (y - k) (by omega) (by omega))
    have h3 : y + k < r.2 := by
      refine Int.lt_of_not_ge fun hc => ?_
      obtain ⟨q, hq, h4, h5⟩ := mem_iff.1 (h r.2 (by omega) (by omega))
      obtain ⟨i, hi, rfl⟩ := List.getElem_of_mem hr
      obtain ⟨j, hj, rfl⟩ := List.getElem_of_mem hq
      have hs := (valid_iff.1 hb).1
      have hp := List.pairwise_iff_getElem.1 hs.2
      rcases Nat.lt_trichotomy i j with hij | hij | hij
      · have := hp i j hi hj hij; omega
      · subst hij; omega
      · have := hp j i hj hi hij
        have := hs.1 _ (List.getElem_mem hi)
        omega
    refine ⟨(r.1 + k, r.2 - k), List.mem_map.2 ⟨r, List.mem_filter.2 ⟨hr, ?_⟩, rfl⟩, by simp only; omega, by simp only; omega⟩
    rw [decide_eq_true_eq]; omega
theorem shrink_valid {b : List Run} {k : Int} : valid (shrinkL b k) = true := by
  unfold shrinkL
  split
  · rename_i h
    simp [shrinkOk] at h
    obtain ⟨hb, hk1, hk2⟩ := h
    obtain ⟨hs, hf⟩ := valid_iff.1 hb
    refine valid_iff.2 ⟨⟨fun q hq => ?_, ?_⟩, fun q hq => ?_⟩
    · obtain ⟨r, hr, rfl⟩ := List.mem_map.1 hq
      simpa using (List.mem_filter.1 hr).2
    · unfold shr
      rw [List.pairwise_map]
      exact (hs.2.filter _).imp fun {a b} h => by simp only; omega
    · obtain ⟨r, hr, rfl⟩ := List.mem_map.1 hq
      obtain ⟨h1, h2⟩ := List.mem_filter.1 hr
      have := fits_bd (hf r h1)
      simp at h2
      simp [fits]; omega
  · rfl
theorem mem_shrink {b : List Run} {k : Int} (hb : valid b = true) (h1 : 0 ≤ k) (h2 : k ≤ 65536) (y : Int) : mem (shrinkL b k) y = true ↔ ∀ x, y - k ≤ x → x ≤ y + k → mem b x = true := by
  have : shrinkL b k = shr k b := by
    unfold shrinkL; rw [if_pos]; simp [shrinkOk, hb, h1]; omega
  rw [this, mem_shr hb h1]
end Go.Proofs.YtneelidbgigehaaGreat

/- What the window's rows contain; with no program in sight. (joined: MorphMath MorphMath2 MorphMath3) -/
/- What the window's rows contain; with no program in sight. -/
namespace Go.Proofs.YtneelidbgigehaaGreat
set_option linter.unusedSimpArgs false
set_option linter.unusedVariables false
open Runs Reg
end Go.Proofs.YtneelidbgigehaaGreat
/- Erosions and diamonds; with no program in sight. -/
namespace Go.Proofs.YtneelidbgigehaaGreat
set_option linter.unusedSimpArgs false
set_option linter.unusedVariables false
open Runs Reg
/-- what the rows y - k, .., y - k + m have in common -/
def winI (g : Int → List Run) (y k : Int) : Nat → List Run
  | 0 => g (y - k)
  | m + 1 => setop (opf 1) (winI g y k m) (g (y - k + 1 + m))
theorem winI_spec {g : Int → List Run} (hg : ∀ j, valid (g j) = true) (y k : Int) : ∀ m, valid (winI g y k m) = true ∧ ∀ x, mem (winI g y k m) x = true ↔ ∀ j : Int, y - k ≤ j → j ≤ y - k + m → mem (g j) x = true
  | 0 => ⟨hg _, fun x => ⟨fun h j h1 h2 => by
      have : j = y - k := by omega
      subst this; exact h, fun h => h _ (by omega) (by omega)⟩⟩
  | m + 1 => by
    have ih := winI_spec hg y k m
    have h := setop_spec 1 ih.1 (hg (y - k + 1 + m))
    refine ⟨h.1, fun x => ?_⟩
    rw [winI, h.2 x]
    have e : opf 1 (mem (winI g y k m) x) (mem (g (y - k + 1 + m)) x) = (mem (winI g y k m) x && mem (g (y - k + 1 + m)) x) := rfl
    rw [e, Bool.and_eq_true, ih.2 x]
    constructor
    · rintro ⟨h1, h2⟩ j h3 h4
      by_cases h5 : j ≤ y - k + m
      · exact h1 j h3 h5
      · have : j = y - k + 1 + m := by omega
        subst this; exact h2
    · intro h1
      exact ⟨fun j h2 h3 => h1 j h2 (by omega), h1 _ (by omega) (by omega)⟩
/-- the row y of the erosion -/
def eroW (rows : List Reg.Row) (k y : Int) : List Run := winI (fun j => shrinkL (rwAt rows j) k) y k (2 * k).toNat
theorem eroW_valid (rows : List Reg.Row) (k y : Int) : valid (eroW rows k y) = true := (winI_spec (fun j => shrink_valid) y k _).1
theorem rwAt_valid {rows : List Reg.Row} (h : VReg rows) (j : Int) : valid (rwAt rows j) = true := sepIn_valid (rwAt_in h j)
theorem eroW_mem {rows : List Reg.Row} (h : VReg rows) {k : Int} (h0 : 0 ≤ k) (h1 : k ≤ 64) (y x : Int) :
    mem (eroW rows k y) x = true ↔ ∀ j i : Int, y - k ≤ j → j ≤ y + k → x - k ≤ i → i ≤ x + k → memC rows i j = true := by
  unfold eroW
  rw [(winI_spec (fun j => shrink_valid) y k _).2 x]
  constructor
  · intro h2 j i h3 h4 h5 h6
    rw [memC_rwAt h]
    exact (mem_shrink (rwAt_valid h j) h0 (by omega) x).1 (h2 j h3 (by omega)) i h5 h6
  · intro h2 j h3 h4
    refine (mem_shrink (rwAt_valid h j) h0 (by omega) x).2 fun i h5 h6 => ?_
    rw [← memC_rwAt h]
    exact h2 j i h3 (by omega) h5 h6
theorem asc_rows {rows : List Reg.Row} (h : VReg rows) : Asc (rows.map (·.1)) := by
  unfold Asc
  rw [List.pairwise_map]
  exact h.2
theorem ok_rows {rows : List Reg.Row} (h : VReg rows) : ∀ y ∈ rows.map (·.1), okC y = true := by
  intro y hy
  obtain ⟨w, hw, rfl⟩ := List.mem_map.1 hy
  exact (h.1 w hw).1
/-- rows of a region that keep some of its cells -/
theorem keep_in {rows : List Reg.Row} (h : VReg rows) {g : Int → List Run} (hv : ∀ y, valid (g y) = true) (hm : ∀ x y, mem (g y) x = true → memC rows x y = true) (y : Int) : SepIn (g y) :=
  sepIn_of_mem (valid_iff.1 (hv y)).1 fun x hx => sepIn_mem (rwAt_in h y) (by rw [← memC_rwAt h]; exact hm x y hx)
theorem keep_valid {rows : List Reg.Row} (h : VReg rows) {g : Int → List Run} (hv : ∀ y, valid (g y) = true) (hm : ∀ x y, mem (g y) x = true → memC rows x y = true) : rvalid (rowsOn g (rows.map (·.1))) = true :=
  rvalid_iff.2 (rowsOn_vreg (asc_rows h) (ok_rows h) fun y _ => keep_in h hv hm y)
theorem keep_mem {rows : List Reg.Row} {g : Int → List Run} (hm : ∀ x y, mem (g y) x = true → memC rows x y = true) (x y : Int) : memC (rowsOn g (rows.map (·.1))) x y = mem (g y) x := by
  rw [rowsOn_memC]
  cases h : mem (g y) x
  · exact Bool.and_false _
  · rw [Bool.and_true, decide_eq_true_eq]
    exact memC_y (hm x y h)
/-- the erosion -/
def eroR (rows : List Reg.Row) (k : Int) : List Reg.Row := if reachOk k && rvalid rows then rowsOn (eroW rows k) (rows.map (·.1)) else []
theorem eroW_sub {rows : List Reg.Row} (h : VReg rows) {k : Int} (h0 : 0 ≤ k) (h1 : k ≤ 64) (x y : Int) (hm : mem (eroW rows k y) x = true) : memC rows x y = true :=
  (eroW_mem h h0 h1 y x).1 hm y x (by omega) (by omega) (by omega) (by omega)
theorem reach_iff {k : Int} : reachOk k = true ↔ 0 ≤ k ∧ k ≤ 64 := by simp [reachOk]
theorem eroR_valid (rows : List Reg.Row) (k : Int) : rvalid (eroR rows k) = true := by
  unfold eroR
  split
  · rename_i h
    rw [Bool.and_eq_true] at h
    have hk := reach_iff.1 h.1
    exact keep_valid (rvalid_iff.1 h.2) (eroW_valid rows k) (eroW_sub (rvalid_iff.1 h.2) hk.1 hk.2)
  · exact rvalid_nil
theorem eroR_mem {rows : List Reg.Row} {k : Int} (hk : reachOk k = true) (hv : rvalid rows = true) (x y : Int) :
    memC (eroR rows k) x y = true ↔ ∀ j i : Int, y - k ≤ j → j ≤ y + k → x - k ≤ i → i ≤ x + k → memC rows i j = true := by
  unfold eroR
  rw [if_pos (by rw [hk, hv]; rfl)]
  have h := reach_iff.1 hk
  rw [keep_mem (eroW_sub (rvalid_iff.1 hv) h.1 h.2), eroW_mem (rvalid_iff.1 hv) h.1 h.2]
end Go.Proofs.YtneelidbgigehaaGreat
/- The laws of dilations and erosions; with no program in sight. -/
namespace Go.Proofs.YtneelidbgigehaaGreat
set_option linter.unusedSimpArgs false
set_option linter.unusedVariables false
open Runs Reg
theorem reg_ext {a b : List Reg.Row} (ha : rvalid a = true) (hb : rvalid b = true) (h : ∀ x y, memC a x y = true ↔ memC b x y = true) : a = b :=
  vreg_ext (rvalid_iff.1 ha) (rvalid_iff.1 hb) fun x y => by rw [Bool.eq_iff_iff]; exact h x y
def subR (a b : List Reg.Row) : Prop := ∀ x y, memC a x y = true → memC b x y = true
/-- whether a region lies within another one -/
def withinR (a b : List Reg.Row) : Bool := rvalid a && rvalid b && (rop (opf 0) a b).isEmpty
theorem rop0_iff {a b : List Reg.Row} (ha : rvalid a = true) (hb : rvalid b = true) : rop (opf 0) a b = [] ↔ subR a b := by
  have hs := rop_spec (opf_ff 0) ha hb
  constructor
  · intro h x y hx
    have := hs.2 x y
    rw [h, memC_nil, hx] at this
    cases hb : memC b x y
    · rw [hb] at this; simp [opf] at this
    · rfl
  · intro h
    refine (rop_eq (opf_ff 0) ha hb vreg_nil fun x y => ?_).symm
    rw [memC_nil]
    have := h x y
    cases h1 : memC a x y <;> cases h2 : memC b x y <;> simp_all [opf]
theorem within_iff {a b : List Reg.Row} (ha : rvalid a = true) (hb : rvalid b = true) : withinR a b = true ↔ subR a b := by
  unfold withinR
  rw [ha, hb, Bool.true_and, Bool.true_and, List.isEmpty_iff, rop0_iff ha hb]
/-- two steps are one -/
theorem ero_steps {r : List Reg.Row} {j k : Int} (hj : 0 ≤ j) (hk : 0 ≤ k) (hjk : j + k ≤ 64) : eroR (eroR r j) k = eroR r (j + k) := by
  have rj : reachOk j = true := reach_iff.2 ⟨hj, by omega⟩
  have rk : reachOk k = true := reach_iff.2 ⟨hk, by omega⟩
  have rs : reachOk (j + k) = true := reach_iff.2 ⟨by omega, hjk⟩
  refine reg_ext (eroR_valid _ _) (eroR_valid _ _) fun x y => ?_
  cases hv : rvalid r
  · have e1 : eroR r j = [] := by unfold eroR; rw [hv, Bool.and_false]; rfl
    have e2 : eroR r (j + k) = [] := by unfold eroR; rw [hv, Bool.and_false]; rfl
    have e3 : eroR [] k = [] := by unfold eroR; simp [rowsOn]
    rw [e1, e2, e3]
  · rw [eroR_mem rk (eroR_valid r j), eroR_mem rs hv]
    constructor
    · intro h p q h1 h2 h3 h4
      have hm := h (max (y - k) (min (y + k) p)) (max (x - k) (min (x + k) q)) (by omega) (by omega) (by omega) (by omega)
      exact (eroR_mem rj hv _ _).1 hm p q (by omega) (by omega) (by omega) (by omega)
    · intro h p q h1 h2 h3 h4
      exact (eroR_mem rj hv _ _).2 fun p2 q2 h5 h6 h7 h8 => h p2 q2 (by omega) (by omega) (by omega) (by omega)
theorem ero_no {r : List Reg.Row} {k : Int} (h : (reachOk k && rvalid r) = false) : eroR r k = [] := by unfold eroR; rw [h]; rfl
end Go.Proofs.YtneelidbgigehaaGreat

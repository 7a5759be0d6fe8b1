/- The runs that the chapter gathers for a row of a dilation; with no program in sight. -/
import Derived.Test.YtjppaknajdbkgaaMorphMathA
namespace Go.Proofs.Ytjppaknajdbkgaa
set_option linter.unusedSimpArgs false
set_option linter.unusedVariables false
open Runs Reg
/-- the runs of the first n rows, each longer at both ends by what wd says of its row (none where that is negative) -/
def rawG (wd : Int → Int) (rows : List Reg.Row) : Nat → List Run
  | 0 => []
  | n + 1 => rawG wd rows n ++ (match rows[n]? with | some w => if wd w.1 < 0 then [] else w.2.map (gr (wd w.1)) | none => [])
theorem rawG_no {wd : Int → Int} {rows : List Reg.Row} {n : Nat} {w : Reg.Row} (h : rows[n]? = some w) (hw : wd w.1 < 0) : rawG wd rows (n + 1) = rawG wd rows n := by
  rw [rawG, h]; simp only; rw [if_pos hw, List.append_nil]
theorem rawG_yes {wd : Int → Int} {rows : List Reg.Row} {n : Nat} {w : Reg.Row} (h : rows[n]? = some w) (hw : ¬ wd w.1 < 0) : rawG wd rows (n + 1) = rawG wd rows n ++ w.2.map (gr (wd w.1)) := by
  rw [rawG, h]; simp only; rw [if_neg hw]
theorem rawG_in {wd : Int → Int} {rows : List Reg.Row} {r : Run} : ∀ {n : Nat}, r ∈ rawG wd rows n ↔ ∃ w ∈ rows.take n, ¬ wd w.1 < 0 ∧ r ∈ w.2.map (gr (wd w.1))
  | 0 => by simp [rawG]
  | n + 1 => by
    rw [rawG, List.mem_append, rawG_in, List.take_add_one]
    constructor
    · rintro (⟨w, h1, h2⟩ | h)
      · exact ⟨w, List.mem_append.2 (.inl h1), h2⟩
      · cases hr : rows[n]? with
        | none => rw [hr] at h; simp at h
        | some w =>
          rw [hr] at h
          simp only at h
          split at h
          · simp at h
          · exact ⟨w, by simp, by assumption, h⟩
    · rintro ⟨w, h1, h2, h3⟩
      rcases List.mem_append.1 h1 with h1 | h1
      · exact .inl ⟨w, h1, h2, h3⟩
      · right
        cases hr : rows[n]? with
        | none => rw [hr] at h1; simp at h1
        | some v =>
          rw [hr] at h1
          simp at h1
          subst h1
          simp only
          rw [if_neg h2]
          exact h3
theorem rawG_len {wd : Int → Int} {rows : List Reg.Row} (h : VReg rows) : ∀ n, (rawG wd rows n).length ≤ n * 8192
  | 0 => Nat.zero_le _
  | n + 1 => by
    have ih := rawG_len (wd := wd) h n
    rw [rawG, List.length_append, Nat.succ_mul]
    refine Nat.add_le_add ih ?_
    cases hr : rows[n]? with
    | none => exact Nat.zero_le _
    | some w =>
      have := (vreg_len h).2 w (List.mem_of_getElem? hr)
      simp only
      split
      · exact Nat.zero_le _
      · rw [List.length_map]; exact this
theorem rawG_norm {wd : Int → Int} {rows : List Reg.Row} (h : VReg rows) (hwd : ∀ j, wd j ≤ 64) (x : Int) :
    mem (normR (rawG wd rows rows.length)) x = true ↔ ∃ j i : Int, 0 ≤ wd j ∧ x - wd j ≤ i ∧ i ≤ x + wd j ∧ memC rows i j = true := by
  have hok : normOk (rawG wd rows rows.length) = true := by
    unfold normOk full
    rw [List.all_eq_true]
    intro r hr
    obtain ⟨w, h1, h2, h3⟩ := rawG_in.1 (List.mem_filter.1 hr).1
    rw [List.take_length] at h1
    obtain ⟨q, hq, rfl⟩ := List.mem_map.1 h3
    have h4 := (fine_sepIn.1 (h.1 w h1).2).1
    have h5 := h4.2 q hq
    have h6 := h4.1.1 q hq
    have := hwd w.1
    have h7 : fits (gr (wd w.1) q) = true := decide_eq_true (by simp only [gr]; omega)
    exact h7
  rw [normR, if_pos hok, (norm_spec _).2 x, mem_iff]
  constructor
  · rintro ⟨r, hr, h1, h2⟩
    obtain ⟨w, h3, h4, h5⟩ := rawG_in.1 hr
    rw [List.take_length] at h3
    have hs := (fine_sepIn.1 (h.1 w h3).2).1
    have hm : mem (w.2.map (gr (wd w.1))) x = true := mem_iff.2 ⟨r, h5, h1, h2⟩
    obtain ⟨i, h6, h7, h8⟩ := (mem_gr (sepIn_valid hs) (by omega)).1 hm
    exact ⟨w.1, i, by omega, by omega, by omega, memC_iff.2 ⟨w, h3, rfl, h8⟩⟩
  · rintro ⟨j, i, h1, h2, h3, h4⟩
    obtain ⟨w, h5, rfl, h6⟩ := memC_iff.1 h4
    have hs := (fine_sepIn.1 (h.1 w h5).2).1
    have hm := (mem_gr (k := wd w.1) (x := x) (sepIn_valid hs) h1).2 ⟨i, by omega, by omega, h6⟩
    obtain ⟨r, h7, h8, h9⟩ := mem_iff.1 hm
    exact ⟨r, rawG_in.2 ⟨w, by rw [List.take_length]; exact h5, by omega, h7⟩, h8, h9⟩
/-- by how much the rows are longer: for squares, and for diamonds -/
def wdS (k y j : Int) : Int := if j < y - k ∨ y + k < j then -1 else k
def wdD (k y j : Int) : Int := k - max (j - y) (y - j)
theorem raw_dil {rows : List Reg.Row} (h : VReg rows) {k : Int} (h0 : 0 ≤ k) (h1 : k ≤ 64) (y : Int) : normR (rawG (wdS k y) rows rows.length) = dilW rows k y := by
  refine dilW_is h h0 h1 normR_valid fun x => ?_
  rw [rawG_norm h (fun j => by unfold wdS; split <;> omega)]
  constructor
  · rintro ⟨j, i, h2, h3, h4, h5⟩
    unfold wdS at h2 h3 h4
    split at h2
    · omega
    · rw [if_neg (by assumption)] at h3 h4
      exact ⟨j, i, by omega, by omega, by omega, by omega, h5⟩
  · rintro ⟨j, i, h2, h3, h4, h5, h6⟩
    have e : wdS k y j = k := by unfold wdS; rw [if_neg (by omega)]
    exact ⟨j, i, by omega, by omega, by omega, h6⟩
theorem raw_dcr {rows : List Reg.Row} (h : VReg rows) {k : Int} (h0 : 0 ≤ k) (h1 : k ≤ 64) (y : Int) : normR (rawG (wdD k y) rows rows.length) = dcrW rows k y := by
  refine dcrW_is h h0 h1 normR_valid fun x => ?_
  rw [rawG_norm h (fun j => by unfold wdD; omega)]
  unfold wdD
  constructor
  · rintro ⟨j, i, h2, h3, h4, h5⟩
    exact ⟨j, i, by omega, h5⟩
  · rintro ⟨j, i, h2, h6⟩
    exact ⟨j, i, by omega, by omega, by omega, h6⟩
theorem gr_snoc {l : List Run} {i : Nat} {r : Run} {k : Int} (h : l[i]? = some r) : (l.take (i + 1)).map (gr k) = (l.take i).map (gr k) ++ [(r.1 - k, r.2 + k)] := by
  rw [List.take_add_one, h]; simp [gr]
end Go.Proofs.Ytjppaknajdbkgaa

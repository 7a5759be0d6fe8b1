/- The region of a list of cells; with no program in sight. (joined: OfMath OfWalk) -/
import Derived.Test.YtneelidbgigehaaGreatRegMathB
import Derived.Deep.RegionLaw
import Derived.Deep.RegionHeld
import Derived.Test.YtneelidbgigehaaGreatRegCells
import Derived.Test.YtneelidbgigehaaGreatRegBounds
/- The region of a list of cells; with no program in sight. -/
namespace Go.Proofs.YtneelidbgigehaaGreat
set_option linter.unusedSimpArgs false
set_option linter.unusedVariables false
namespace Reg
open Runs
/-- the place of a cell in the order of cells -/
def keyC (c : Int × Int) : Int := c.2 * 36893488147419103232 + c.1
def okCell (c : Int × Int) : Bool := okC c.1 && okC c.2
theorem okC_iff {x : Int} : okC x = true ↔ -4096 ≤ x ∧ x < 4096 := by simp [okC]
theorem okCell_iff {c : Int × Int} : okCell c = true ↔ (-4096 ≤ c.1 ∧ c.1 < 4096) ∧ -4096 ≤ c.2 ∧ c.2 < 4096 := by simp [okCell, okC]
/-- swapped places of a list -/
def swpG {α : Type} (L : List α) (k : Nat) (a b : α) : List α := (L.set k a).set (k - 1) b
theorem swpG_len {α : Type} (L : List α) (k : Nat) (a b : α) : (swpG L k a b).length = L.length := by simp [swpG]
theorem swpG_perm {α : Type} {L : List α} {k : Nat} {a b : α} (h0 : 0 < k) (ha : L[k - 1]? = some a) (hb : L[k]? = some b) : (swpG L k a b).Perm L := by
  obtain ⟨h1, e1⟩ := List.getElem?_eq_some_iff.1 ha
  obtain ⟨h2, e2⟩ := List.getElem?_eq_some_iff.1 hb
  subst e1 e2
  unfold swpG
  exact List.set_set_perm (by omega) (by omega)
theorem at_map {α : Type} {f : α → Int} {L : List α} {k : Nat} {a : α} (h : L[k]? = some a) : at_ (L.map f) k = f a := by simp [at_, h]
theorem swpG_map {α : Type} (f : α → Int) {L : List α} {k : Nat} {a b : α} (ha : L[k - 1]? = some a) (hb : L[k]? = some b) : (swpG L k a b).map f = swp (L.map f) k := by
  unfold swpG swp
  rw [List.map_set, List.map_set, at_map ha, at_map hb]
def withL (l : List Run) (x : Int) : List Run := match l.getLast? with
  | none => [(x, x + 1)]
  | some r => if x < r.2 then l else if x = r.2 then l.dropLast ++ [(r.1, x + 1)] else l ++ [(x, x + 1)]
def addC (rows : List Row) (c : Int × Int) : List Row := match rows.getLast? with
  | none => [(c.2, withL [] c.1)]
  | some r => if r.1 = c.2 then rows.dropLast ++ [(r.1, withL r.2 c.1)] else rows ++ [(c.2, withL [] c.1)]
def ofTo (L : List (Int × Int)) (i : Nat) : List Row := (L.take i).foldl addC []
theorem ofTo_succ {L : List (Int × Int)} {i : Nat} {c : Int × Int} (h : L[i]? = some c) : ofTo L (i + 1) = addC (ofTo L i) c := by
  unfold ofTo; rw [List.take_add_one, h]; simp
theorem withL_nil (x : Int) : withL [] x = [(x, x + 1)] := rfl
theorem withL_last (E : List Run) (r : Run) (x : Int) : withL (E ++ [r]) x = if x < r.2 then E ++ [r] else if x = r.2 then E ++ [(r.1, x + 1)] else E ++ [r] ++ [(x, x + 1)] := by simp [withL]
theorem addC_nil (c : Int × Int) : addC [] c = [(c.2, [(c.1, c.1 + 1)])] := rfl
theorem addC_last (E : List Row) (r : Row) (c : Int × Int) : addC (E ++ [r]) c = if r.1 = c.2 then E ++ [(r.1, withL r.2 c.1)] else E ++ [r] ++ [(c.2, [(c.1, c.1 + 1)])] := by simp [addC, withL_nil]
theorem vreg_snoc {rows : List Row} {w : Row} : VReg (rows ++ [w]) ↔ VReg rows ∧ okC w.1 = true ∧ fine w.2 = true ∧ ∀ v ∈ rows, v.1 < w.1 := by
  simp only [VReg, List.mem_append, List.mem_singleton, List.pairwise_append]
  constructor
  · rintro ⟨h1, h2, _, h3⟩
    exact ⟨⟨fun v hv => h1 v (.inl hv), h2⟩, (h1 w (.inr rfl)).1, (h1 w (.inr rfl)).2, fun v hv => h3 v hv w rfl⟩
  · rintro ⟨⟨h1, h2⟩, h3, h4, h5⟩
    exact ⟨fun v hv => by rcases hv with hv | rfl; exact h1 v hv; exact ⟨h3, h4⟩, h2, List.pairwise_singleton _ _, fun v hv u hu => by subst hu; exact h5 v hv⟩
theorem memC_snoc (rows : List Row) (w : Row) (x y : Int) : memC (rows ++ [w]) x y = (memC rows x y || (w.1 == y && mem w.2 x)) := by simp [memC]
theorem mem_snoc (l : List Run) (r : Run) (x : Int) : mem (l ++ [r]) x = (mem l x || inR r x) := by simp [mem]
theorem fine_one {x : Int} (h : okC x = true) : fine [(x, x + 1)] = true := by
  rw [okC_iff] at h
  refine fine_iff.2 ⟨sep_cons.2 ⟨by show x < x + 1; omega, by simp, sep_nil⟩, ?_, by simp⟩
  intro r hr
  have e : r = (x, x + 1) := by simpa using hr
  subst e; show -4096 ≤ x ∧ x + 1 ≤ 4096; omega
theorem fine_snoc {l : List Run} {a b : Int} : fine (l ++ [(a, b)]) = true ↔ Sep l ∧ (∀ r ∈ l, -4096 ≤ r.1 ∧ r.2 ≤ 4096) ∧ (∀ r ∈ l, r.2 < a) ∧ a < b ∧ -4096 ≤ a ∧ b ≤ 4096 := by
  rw [fine_iff, sep_append]
  constructor
  · rintro ⟨⟨h1, h2, h3⟩, h4, _⟩
    exact ⟨h1, fun r hr => h4 r (by simp [hr]), fun r hr => h3 r hr (a, b) (by simp), h2.1 (a, b) (by simp), (h4 (a, b) (by simp)).1, (h4 (a, b) (by simp)).2⟩
  · rintro ⟨h1, h2, h3, h4, h5, h6⟩
    refine ⟨⟨h1, sep_cons.2 ⟨h4, by simp, sep_nil⟩, fun q hq r hr => ?_⟩, fun r hr => ?_, by simp⟩
    · have e : r = (a, b) := by simpa using hr
      subst e; exact h3 q hq
    · rcases List.mem_append.1 hr with hr | hr
      · exact h2 r hr
      · have e : r = (a, b) := by simpa using hr
        subst e; exact ⟨h5, h6⟩
/-- the rows of the cells so far -/
def OfInv (rows : List Row) (pre : List (Int × Int)) : Prop := VReg rows ∧ (∀ x y, memC rows x y = true ↔ (x, y) ∈ pre) ∧ ((pre = [] ∧ rows = []) ∨ ∃ p0 c E rs a, pre = p0 ++ [c] ∧ rows = E ++ [(c.2, rs ++ [(a, c.1 + 1)])])
theorem ofInv_step {rows : List Row} {pre : List (Int × Int)} {c : Int × Int} (h : OfInv rows pre) (hp : ∀ d ∈ pre, okCell d = true) (hc : okCell c = true) (hk : ∀ d ∈ pre, keyC d ≤ keyC c) : OfInv (addC rows c) (pre ++ [c]) := by
  obtain ⟨hv, hm, hl⟩ := h
  have hcb := okCell_iff.1 hc
  have hc1 : okC c.1 = true := okC_iff.2 hcb.1
  have hc2 : okC c.2 = true := okC_iff.2 hcb.2
  rcases hl with ⟨rfl, rfl⟩ | ⟨p0, d, E, rs, a, rfl, rfl⟩
  · rw [addC_nil]
    refine ⟨vreg_snoc (rows := []).2 ⟨vreg_nil, hc2, fine_one hc1, by simp⟩, fun x y => ?_, .inr ⟨[], c, [], [], c.1, rfl, rfl⟩⟩
    rw [show [(c.2, [(c.1, c.1 + 1)])] = ([] : List Row) ++ [(c.2, [(c.1, c.1 + 1)])] from rfl, memC_snoc, memC_nil, Bool.false_or, Bool.and_eq_true]
    simp only [beq_iff_eq, mem_iff, List.nil_append, List.mem_singleton]
    constructor
    · rintro ⟨h1, r, h2, h3, h4⟩
      subst h2
      have : x = c.1 := by simp at h3 h4; omega
      rw [this, ← h1]
    · intro h1
      rw [← h1]
      exact ⟨rfl, _, rfl, Int.le_refl _, by simp; omega⟩
  · have hd := hp d (by simp)
    have hdb := okCell_iff.1 hd
    have hkd := hk d (by simp)
    unfold keyC at hkd
    obtain ⟨hvE, hd2, hf, hlt⟩ := vreg_snoc.1 hv
    rw [addC_last]
    by_cases hy : d.2 = c.2
    · have hx : d.1 ≤ c.1 := by omega
      rw [if_pos hy]
      have hff := fine_snoc.1 hf
      have key : fine (withL (rs ++ [(a, d.1 + 1)]) c.1) = true ∧ (∀ x, mem (withL (rs ++ [(a, d.1 + 1)]) c.1) x = true ↔ mem (rs ++ [(a, d.1 + 1)]) x = true ∨ x = c.1) ∧ ∃ rs' a', withL (rs ++ [(a, d.1 + 1)]) c.1 = rs' ++ [(a', c.1 + 1)] := by
        rw [withL_last]
        have hin : ∀ (r : Run) (x : Int), inR r x = true ↔ r.1 ≤ x ∧ x < r.2 := fun r x => by simp [inR]
        by_cases h1 : c.1 < d.1 + 1
        · have e : c.1 = d.1 := by omega
          rw [if_pos h1]
          refine ⟨hf, fun x => ?_, rs, a, by rw [e]⟩
          rw [mem_snoc, Bool.or_eq_true, hin]
          constructor
          · exact .inl
          · rintro (h | h)
            · exact h
            · right; simp; omega
        · rw [if_neg h1]
          by_cases h2 : c.1 = d.1 + 1
          · rw [if_pos h2]
            refine ⟨fine_snoc.2 ⟨hff.1, hff.2.1, hff.2.2.1, by simp; omega, hff.2.2.2.2.1, by omega⟩, fun x => ?_, rs, a, rfl⟩
            rw [mem_snoc, mem_snoc, Bool.or_eq_true, Bool.or_eq_true, hin, hin]
            simp
            constructor
            · rintro (h | h)
              · exact .inl (.inl h)
              · by_cases h3 : x < d.1 + 1
                · exact .inl (.inr ⟨h.1, h3⟩)
                · right; omega
            · rintro ((h | h) | h)
              · exact .inl h
              · right; omega
              · right; have := hff.2.2.2.1; omega
          · rw [if_neg h2]
            refine ⟨fine_snoc.2 ⟨(fine_iff.1 hf).1, (fine_iff.1 hf).2.1, fun r hr => ?_, by omega, by omega, by omega⟩, fun x => ?_, _, c.1, rfl⟩
            · rcases List.mem_append.1 hr with hr | hr
              · have := hff.2.2.1 r hr
                have := hff.2.2.2.1
                omega
              · have e : r = (a, d.1 + 1) := by simpa using hr
                subst e; show d.1 + 1 < c.1; omega
            · rw [mem_snoc, Bool.or_eq_true, hin]
              constructor
              · rintro (h | h)
                · exact .inl h
                · right; simp at h; omega
              · rintro (h | h)
                · exact .inl h
                · right; simp; omega
      obtain ⟨k1, k2, rs', a', k3⟩ := key
      refine ⟨vreg_snoc.2 ⟨hvE, hd2, k1, hlt⟩, fun x y => ?_, .inr ⟨p0 ++ [d], c, E, rs', a', rfl, by rw [k3, hy]⟩⟩
      have := hm x y
      rw [memC_snoc] at this ⊢
      simp only [Bool.or_eq_true, Bool.and_eq_true, beq_iff_eq, k2] at this ⊢
      rw [List.mem_append, ← this, List.mem_singleton]
      constructor
      · rintro (h | ⟨h, h3 | h3⟩)
        · exact .inl (.inl h)
        · exact .inl (.inr ⟨h, h3⟩)
        · right; rw [h3, ← h, hy]
      · rintro ((h | h) | h)
        · exact .inl h
        · exact .inr ⟨h.1, .inl h.2⟩
        · subst h; right; exact ⟨hy, .inr rfl⟩
    · have hy2 : d.2 < c.2 := by omega
      rw [if_neg hy]
      refine ⟨vreg_snoc.2 ⟨hv, hc2, fine_one hc1, fun v hvm => ?_⟩, fun x y => ?_, .inr ⟨p0 ++ [d], c, _, [], c.1, rfl, rfl⟩⟩
      · rcases List.mem_append.1 hvm with hvm | hvm
        · have := hlt v hvm; show v.1 < c.2; simp at this; omega
        · have e : v = (d.2, rs ++ [(a, d.1 + 1)]) := by simpa using hvm
          subst e; exact hy2
      · have := hm x y
        rw [memC_snoc]
        simp only [Bool.or_eq_true, Bool.and_eq_true, beq_iff_eq, mem_iff, List.mem_singleton]
        have e : (x, y) ∈ p0 ++ [d] ++ [c] ↔ (x, y) ∈ p0 ++ [d] ∨ (x, y) = c := by simp [List.mem_append, or_assoc]
        rw [this, e]
        constructor
        · rintro (h | ⟨h1, r, h2, h3, h4⟩)
          · exact .inl h
          · subst h2
            have : x = c.1 := by simp at h3 h4; omega
            right; rw [this, ← h1]
        · rintro (h | h)
          · exact .inl h
          · right; rw [← h]; exact ⟨rfl, _, rfl, Int.le_refl _, by simp; omega⟩
theorem ofTo_inv {L : List (Int × Int)} (hr : ∀ c ∈ L, okCell c = true) (hs : (L.map keyC).Pairwise (· ≤ ·)) : ∀ i, i ≤ L.length → OfInv (ofTo L i) (L.take i)
  | 0, _ => ⟨vreg_nil, fun x y => by simp [ofTo, memC], .inl ⟨rfl, rfl⟩⟩
  | i + 1, hi => by
    obtain ⟨c, hc⟩ : ∃ c, L[i]? = some c := ⟨_, List.getElem?_eq_getElem (by omega)⟩
    rw [ofTo_succ hc, List.take_add_one, hc]
    refine ofInv_step (ofTo_inv hr hs i (by omega)) (fun d hd => hr d (List.mem_of_mem_take hd)) (hr c (List.mem_of_getElem? hc)) fun d hd => ?_
    obtain ⟨k, hk, e⟩ := List.getElem_of_mem hd
    rw [List.length_take] at hk
    rw [List.getElem_take] at e
    rw [List.pairwise_map, List.pairwise_iff_getElem] at hs
    have hc2 := List.getElem?_eq_some_iff.1 hc
    obtain ⟨h3, h4⟩ := hc2
    have := hs k i (by omega) h3 (by omega)
    rwa [e, h4] at this
/-- a cell put into its place -/
def insK (c : Int × Int) : List (Int × Int) → List (Int × Int)
  | [] => [c]
  | d :: l => if keyC c ≤ keyC d then c :: d :: l else d :: insK c l
def srtK : List (Int × Int) → List (Int × Int)
  | [] => []
  | c :: l => insK c (srtK l)
theorem insK_mem (c : Int × Int) : ∀ (l : List (Int × Int)) (d : Int × Int), d ∈ insK c l ↔ d = c ∨ d ∈ l
  | [], d => by simp [insK]
  | e :: l, d => by
    unfold insK
    split
    · simp
    · rw [List.mem_cons, insK_mem c l d, List.mem_cons]
      constructor
      · rintro (h | h | h)
        · exact .inr (.inl h)
        · exact .inl h
        · exact .inr (.inr h)
      · rintro (h | h | h)
        · exact .inr (.inl h)
        · exact .inl h
        · exact .inr (.inr h)
theorem insK_sorted (c : Int × Int) : ∀ {l : List (Int × Int)}, l.Pairwise (fun a b => keyC a ≤ keyC b) → (insK c l).Pairwise (fun a b => keyC a ≤ keyC b)
  | [], _ => List.pairwise_singleton _ _
  | d :: l, h => by
    unfold insK
    rw [List.pairwise_cons] at h
    split
    · rename_i hcd
      refine List.pairwise_cons.2 ⟨fun e he => ?_, List.pairwise_cons.2 h⟩
      rcases List.mem_cons.1 he with rfl | he
      · exact hcd
      · exact Int.le_trans hcd (h.1 e he)
    · rename_i hcd
      refine List.pairwise_cons.2 ⟨fun e he => ?_, insK_sorted c h.2⟩
      rcases (insK_mem c l e).1 he with rfl | he
      · omega
      · exact h.1 e he
theorem srtK_mem : ∀ (l : List (Int × Int)) (d : Int × Int), d ∈ srtK l ↔ d ∈ l
  | [], d => by simp [srtK]
  | c :: l, d => by rw [srtK, insK_mem, srtK_mem l d, List.mem_cons]
theorem srtK_sorted : ∀ (l : List (Int × Int)), (srtK l).Pairwise (fun a b => keyC a ≤ keyC b)
  | [] => List.Pairwise.nil
  | c :: l => insK_sorted c (srtK_sorted l)
/-- the region of the cells, and the error -/
def ofE (l : List (Int × Int)) : Int := if l.all okCell then 0 else 8
def ofR (l : List (Int × Int)) : List Row := if l.all okCell then ofTo (srtK l) (srtK l).length else []
theorem ofR_spec {l : List (Int × Int)} (h : l.all okCell = true) : rvalid (ofR l) = true ∧ ∀ x y, memC (ofR l) x y = true ↔ (x, y) ∈ l := by
  have := ofTo_inv (L := srtK l) (fun c hc => List.all_eq_true.1 h c ((srtK_mem l c).1 hc)) (List.pairwise_map.2 (srtK_sorted l)) _ (Nat.le_refl _)
  unfold ofR
  rw [if_pos h]
  refine ⟨rvalid_iff.2 this.1, fun x y => ?_⟩
  rw [this.2.1 x y, List.take_length, srtK_mem]
theorem ofR_valid (l : List (Int × Int)) : rvalid (ofR l) = true := by
  cases h : l.all okCell
  · unfold ofR; rw [h]; exact rvalid_nil
  · exact (ofR_spec h).1
theorem ofR_is {l L : List (Int × Int)} (h : l.all okCell = true) (hp : ∀ c, c ∈ L ↔ c ∈ l) (hs : (L.map keyC).Pairwise (· ≤ ·)) : ofTo L L.length = ofR l := by
  have h1 := ofTo_inv (L := L) (fun c hc => List.all_eq_true.1 h c ((hp c).1 hc)) hs _ (Nat.le_refl _)
  have h2 := ofR_spec h
  refine vreg_ext h1.1 (rvalid_iff.1 h2.1) fun x y => ?_
  rw [Bool.eq_iff_iff, h1.2.1 x y, h2.2 x y, List.take_length]
  exact hp _
theorem ofR_ext {l : List (Int × Int)} {r : List Row} (h : l.all okCell = true) (hv : rvalid r = true) (hm : ∀ x y, memC r x y = true ↔ (x, y) ∈ l) : ofR l = r := by
  have h2 := ofR_spec h
  refine vreg_ext (rvalid_iff.1 h2.1) (rvalid_iff.1 hv) fun x y => ?_
  rw [Bool.eq_iff_iff, h2.2 x y, hm]
end Reg
end Go.Proofs.YtneelidbgigehaaGreat
/- The chapter's region of a list of cells: its small functions and its sorting. -/
namespace Go.Proofs.YtneelidbgigehaaGreat
set_option linter.unusedSimpArgs false
set_option linter.unusedVariables false
open Go.RowKit Runs Reg
attribute [local go_sem] Kin.cell Kin.frozen Kin.lt0 Kin.lt1 Kin.lt2 Kin.lt3 run_mkf
/-- small numbers: the order of cells is that of their keys -/
def smC (c : Int × Int) : Prop := -9223372036854775808 ≤ c.1 ∧ c.1 ≤ 9223372036854775807
theorem key_lt {a b : Int × Int} (ha : smC a) (hb : smC b) : keyC a < keyC b ↔ a.2 < b.2 ∨ a.2 = b.2 ∧ a.1 < b.1 := by
  unfold keyC; unfold smC at ha hb; omega
theorem ownC_cells {base g n cap : Nat} {W : World} {L : List (Int × Int)} (h : OwnC base W (.slice (some ⟨g, 0, none⟩) n cap) L) {j : Nat} {c : Int × Int} (hj : L[j]? = some c) : W.cell? ⟨g, j * 2, none⟩ = some (.int .i64 c.1) ∧ W.cell? ⟨g, j * 2 + 1, none⟩ = some (.int .i64 c.2) := by
  obtain ⟨A, cap', hv, _, ho⟩ := Rd.own encPt_len h.own
  injection hv with e1 e2 e3
  rcases ho with ho | ⟨b, off, e, _, hc⟩
  · rw [ho] at hj; simp at hj
  · rw [e] at e1
    injection e1 with e1
    injection e1 with e1 e4 _
    subst e1 e4
    have h0 := hc j c hj 0 _ rfl
    have h1 := hc j c hj 1 _ rfl
    simp at h0 h1
    exact ⟨h0, h1⟩
theorem ownC_len {base g n cap : Nat} {W : World} {L : List (Int × Int)} (h : OwnC base W (.slice (some ⟨g, 0, none⟩) n cap) L) : n = L.length := by
  obtain ⟨A, cap', hv, _, _⟩ := Rd.own encPt_len h.own
  injection hv
theorem ownC_set {base g n cap k : Nat} {W : World} {L : List (Int × Int)} {c : Int × Int} (h : OwnC base W (.slice (some ⟨g, 0, none⟩) n cap) L) (hk : k < L.length) : OwnC base ((W.setCell ⟨g, k * 2, none⟩ (.int .i64 c.1)).setCell ⟨g, k * 2 + 1, none⟩ (.int .i64 c.2)) (.slice (some ⟨g, 0, none⟩) n cap) (L.set k c) := by
  have hn := ownC_len h
  subst hn
  have := own_set (y := c) encPt_len rfl h.own k hk
  unfold OwnC
  rw [List.length_set]
  exact this
/-- runs with a number behind them; the result may be the argument itself -/
theorem withL_len (l : List Run) (x : Int) : (withL l x).length ≤ l.length + 1 := by
  unfold withL
  split
  · simp
  · split
    · omega
    · split <;> simp
theorem own_at {W : World} {base n size : Nat} {e : TypeId} {v : Value} {xs : List Value} (h : W.ownsRow base e size v n xs) (hn : 0 < n) : ∃ b c, v = .slice (some ⟨b, 0, none⟩) n c ∧ base ≤ b := by
  rcases h.2 with ⟨rfl, h0⟩ | ⟨g, cap, cur, rfl, hg, _⟩
  · omega
  · exact ⟨g, cap, rfl, hg⟩
theorem withL_of {l : List Run} {x : Int} {r : Run} (hr : l[l.length - 1]? = some r) : withL l x = if x < r.2 then l else if x = r.2 then l.take (l.length - 1) ++ [(r.1, x + 1)] else l ++ [(x, x + 1)] := by
  unfold withL
  rw [List.getLast?_eq_getElem?, hr, List.dropLast_eq_take]
theorem with_own {w : World} {base : Nat} {v' : Value} {l : List Run} {q : Run} (h : w.ownsRow base 69 2 v' (l ++ [q]).length ((l ++ [q]).flatMap encRun)) {v : Value} :
    ∃ A c, Ending.returned v' = .returned (.slice A (l ++ [q]).length c) ∧ Rd 2 encRun w (.slice A (l ++ [q]).length c) (l ++ [q]) ∧ (v = .slice A (l ++ [q]).length c ∨ ∃ b, A = some ⟨b, 0, none⟩ ∧ base ≤ b) := by
  have hr := Rd.own encRun_len h
  obtain ⟨b, c, rfl, hb⟩ := own_at h (by simp)
  exact ⟨_, c, rfl, hr, .inr ⟨b, rfl, hb⟩⟩
end Go.Proofs.YtneelidbgigehaaGreat

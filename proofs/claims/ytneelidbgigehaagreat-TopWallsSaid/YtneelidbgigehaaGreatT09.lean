/- Lemmas: OfWalk RasMathB MapKit. -/
import Derived.Deep.RegionLaw
import Derived.Deep.RegionHeld
import Derived.Maps.OwnSet
import Derived.Maps.RangeWalk
import Derived.DeepKeys4
import Derived.Test.YtneelidbgigehaaGreatT05
import Derived.Test.YtneelidbgigehaaGreatT07
import Derived.Test.YtneelidbgigehaaGreatT08
import Derived.Test.YtneelidbgigehaaGreatT01
/- The region of a list of cells; with no program in sight. (joined: OfMath OfWalk) -/
/- The region of a list of cells; with no program in sight. -/
namespace Go.Proofs.YtneelidbgigehaaGreat
set_option linter.unusedSimpArgs false
set_option linter.unusedVariables false
namespace Reg
open Runs
/-- the place of a cell in the order of cells -/
def keyC (c : Int × Int) : Int := c.2 * 36893488147419103232 + c.1
def okCell (c : Int × Int) : Bool := okC c.1 && okC c.2
theorem okC_iff {x : Int} : okC x = true ↔ -4096 ≤ x ∧ x < 4096 := by simp [okC]
theorem okCell_iff {c : Int × Int} : okCell c = true ↔ (-4096 ≤ c.1 ∧ c.1 < 4096) ∧ -4096 ≤ c.2 ∧ c.2 < 4096 := by simp [okCell, okC]
def withL (l : List Run) (x : Int) : List Run := match l.getLast? with
  | none => [(x, x + 1)]
  | some r => if x < r.2 then l else if x = r.2 then l.dropLast ++ [(r.1, x + 1)] else l ++ [(x, x + 1)]
def addC (rows : List Row) (c : Int × Int) : List Row := match rows.getLast? with
  | none => [(c.2, withL [] c.1)]
  | some r => if r.1 = c.2 then rows.dropLast ++ [(r.1, withL r.2 c.1)] else rows ++ [(c.2, withL [] c.1)]
def ofTo (L : List (Int × Int)) (i : Nat) : List Row := (L.take i).foldl addC []
theorem ofTo_succ {L : List (Int × Int)} {i : Nat} {c : Int × Int} (h : L[i]? = some c) : ofTo L (i + 1) = addC (ofTo L i) c := by
  unfold ofTo; rw [List.take_add_one, h]; simp
theorem withL_nil (x : Int) : withL [] x = [(x, x + 1)] := rfl
theorem withL_last (E : List Run) (r : Run) (x : Int) : withL (E ++ [r]) x = if x < r.2 then E ++ [r] else if x = r.2 then E ++ [(r.1, x + 1)] else E ++ [r] ++ [(x, x + 1)] := by simp [withL]
theorem addC_nil (c : Int × Int) : addC [] c = [(c.2, [(c.1, c.1 + 1)])] := rfl
theorem addC_last (E : List Row) (r : Row) (c : Int × Int) : addC (E ++ [r]) c = if r.1 = c.2 then E ++ [(r.1, withL r.2 c.1)] else E ++ [r] ++ [(c.2, [(c.1, c.1 + 1)])] := by simp [addC, withL_nil]
theorem vreg_snoc {rows : List Row} {w : Row} : VReg (rows ++ [w]) ↔ VReg rows ∧ okC w.1 = true ∧ fine w.2 = true ∧ ∀ v ∈ rows, v.1 < w.1 := by
  simp only [VReg, List.mem_append, List.mem_singleton, List.pairwise_append]
  constructor
  · rintro ⟨h1, h2, _, h3⟩
    exact ⟨⟨fun v hv => h1 v (.inl hv), h2⟩, (h1 w (.inr rfl)).1, (h1 w (.inr rfl)).2, fun v hv => h3 v hv w rfl⟩
  · rintro ⟨⟨h1, h2⟩, h3, h4, h5⟩
    exact ⟨fun v hv => by rcases hv with hv | rfl; exact h1 v hv; exact ⟨h3, h4⟩, h2, List.pairwise_singleton _ _, fun v hv u hu => by subst hu; exact h5 v hv⟩
theorem memC_snoc (rows : List Row) (w : Row) (x y : Int) : memC (rows ++ [w]) x y = (memC rows x y || (w.1 == y && mem w.2 x)) := by simp [memC]
theorem mem_snoc (l : List Run) (r : Run) (x : Int) : mem (l ++ [r]) x = (mem l x || inR r x) := by simp [mem]
theorem fine_one {x : Int} (h : okC x = true) : fine [(x, x + 1)] = true := by
  rw [okC_iff] at h
  refine fine_iff.2 ⟨sep_cons.2 ⟨by show x < x + 1; omega, by simp, sep_nil⟩, ?_, by simp⟩
  intro r hr
  have e : r = (x, x + 1) := by simpa using hr
  subst e; show -4096 ≤ x ∧ x + 1 ≤ 4096; omega
theorem fine_snoc {l : List Run} {a b : Int} : fine (l ++ [(a, b)]) = true ↔ Sep l ∧ (∀ r ∈ l, -4096 ≤ r.1 ∧ r.2 ≤ 4096) ∧ (∀ r ∈ l, r.2 < a) ∧ a < b ∧ -4096 ≤ a ∧ b ≤ 4096 := by
  rw [fine_iff, sep_append]
  constructor
  · rintro ⟨⟨h1, h2, h3⟩, h4, _⟩
    exact ⟨h1, fun r hr => h4 r (by simp [hr]), fun r hr => h3 r hr (a, b) (by simp), h2.1 (a, b) (by simp), (h4 (a, b) (by simp)).1, (h4 (a, b) (by simp)).2⟩
  · rintro ⟨h1, h2, h3, h4, h5, h6⟩
    refine ⟨⟨h1, sep_cons.2 ⟨h4, by simp, sep_nil⟩, fun q hq r hr => ?_⟩, fun r hr => ?_, by simp⟩
    · have e : r = (a, b) := by simpa using hr
      subst e; exact h3 q hq
    · rcases List.mem_append.1 hr with hr | hr
      · exact h2 r hr
      · have e : r = (a, b) := by simpa using hr
        subst e; exact ⟨h5, h6⟩
/-- the rows of the cells so far -/
def OfInv (rows : List Row) (pre : List (Int × Int)) : Prop := VReg rows ∧ (∀ x y, memC rows x y = true ↔ (x, y) ∈ pre) ∧ ((pre = [] ∧ rows = []) ∨ ∃ p0 c E rs a, pre = p0 ++ [c] ∧ rows = E ++ [(c.2, rs ++ [(a, c.1 + 1)])])
theorem ofInv_step {rows : List Row} {pre : List (Int × Int)} {c : Int × Int} (h : OfInv rows pre) (hp : ∀ d ∈ pre, okCell d = true) (hc : okCell c = true) (hk : ∀ d ∈ pre, keyC d ≤ keyC c) : OfInv (addC rows c) (pre ++ [c]) := by
  obtain ⟨hv, hm, hl⟩ := h
  have hcb := okCell_iff.1 hc
  have hc1 : okC c.1 = true := okC_iff.2 hcb.1
  have hc2 : okC c.2 = true := okC_iff.2 hcb.2
  rcases hl with ⟨rfl, rfl⟩ | ⟨p0, d, E, rs, a, rfl, rfl⟩
  · rw [addC_nil]
    refine ⟨vreg_snoc (rows := []).2 ⟨vreg_nil, hc2, fine_one hc1, by simp⟩, fun x y => ?_, .inr ⟨[], c, [], [], c.1, rfl, rfl⟩⟩
    rw [show [(c.2, [(c.1, c.1 + 1)])] = ([] : List Row) ++ [(c.2, [(c.1, c.1 + 1)])] from rfl, memC_snoc, memC_nil, Bool.false_or, Bool.and_eq_true]
    simp only [beq_iff_eq, mem_iff, List.nil_append, List.mem_singleton]
    constructor
    · rintro ⟨h1, r, h2, h3, h4⟩
      subst h2
      have : x = c.1 := by simp at h3 h4; omega
      rw [this, ← h1]
    · intro h1
      rw [← h1]
      exact ⟨rfl, _, rfl, Int.le_refl _, by simp; omega⟩
  · have hd := hp d (by simp)
    have hdb := okCell_iff.1 hd
    have hkd := hk d (by simp)
    unfold keyC at hkd
    obtain ⟨hvE, hd2, hf, hlt⟩ := vreg_snoc.1 hv
    rw [addC_last]
    by_cases hy : d.2 = c.2
    · have hx : d.1 ≤ c.1 := by omega
      rw [if_pos hy]
      have hff := fine_snoc.1 hf
      have key : fine (withL (rs ++ [(a, d.1 + 1)]) c.1) = true ∧ (∀ x, mem (withL (rs ++ [(a, d.1 + 1)]) c.1) x = true ↔ mem (rs ++ [(a, d.1 + 1)]) x = true ∨ x = c.1) ∧ ∃ rs' a', withL (rs ++ [(a, d.1 + 1)]) c.1 = rs' ++ [(a', c.1 + 1)] := by
        rw [withL_last]
        have hin : ∀ (r : Run) (x : Int), inR r x = true ↔ r.1 ≤ x ∧ x < r.2 := fun r x => by simp [inR]
        by_cases h1 : c.1 < d.1 + 1
        · have e : c.1 = d.1 := by omega
          rw [if_pos h1]
          refine ⟨hf, fun x => ?_, rs, a, by rw [e]⟩
          rw [mem_snoc, Bool.or_eq_true, hin]
          constructor
          · exact .inl
          · rintro (h | h)
            · exact h
            · right; simp; omega
        · rw [if_neg h1]
          by_cases h2 : c.1 = d.1 + 1
          · rw [if_pos h2]
            refine ⟨fine_snoc.2 ⟨hff.1, hff.2.1, hff.2.2.1, by simp; omega, hff.2.2.2.2.1, by omega⟩, fun x => ?_, rs, a, rfl⟩
            rw [mem_snoc, mem_snoc, Bool.or_eq_true, Bool.or_eq_true, hin, hin]
            simp
            constructor
            · rintro (h | h)
              · exact .inl (.inl h)
              · by_cases h3 : x < d.1 + 1
                · exact .inl (.inr ⟨h.1, h3⟩)
                · right; omega
            · rintro ((h | h) | h)
              · exact .inl h
              · right; omega
              · right; have := hff.2.2.2.1; omega
          · rw [if_neg h2]
            refine ⟨fine_snoc.2 ⟨(fine_iff.1 hf).1, (fine_iff.1 hf).2.1, fun r hr => ?_, by omega, by omega, by omega⟩, fun x => ?_, _, c.1, rfl⟩
            · rcases List.mem_append.1 hr with hr | hr
              · have := hff.2.2.1 r hr
                have := hff.2.2.2.1
                omega
              · have e : r = (a, d.1 + 1) := by simpa using hr
                subst e; show d.1 + 1 < c.1; omega
            · rw [mem_snoc, Bool.or_eq_true, hin]
              constructor
              · rintro (h | h)
                · exact .inl h
                · right; simp at h; omega
              · rintro (h | h)
                · exact .inl h
                · right; simp; omega
      obtain ⟨k1, k2, rs', a', k3⟩ := key
      refine ⟨vreg_snoc.2 ⟨hvE, hd2, k1, hlt⟩, fun x y => ?_, .inr ⟨p0 ++ [d], c, E, rs', a', rfl, by rw [k3, hy]⟩⟩
      have := hm x y
      rw [memC_snoc] at this ⊢
      simp only [Bool.or_eq_true, Bool.and_eq_true, beq_iff_eq, k2] at this ⊢
      rw [List.mem_append, ← this, List.mem_singleton]
      constructor
      · rintro (h | ⟨h, h3 | h3⟩)
        · exact .inl (.inl h)
        · exact .inl (.inr ⟨h, h3⟩)
        · right; rw [h3, ← h, hy]
      · rintro ((h | h) | h)
        · exact .inl h
        · exact .inr ⟨h.1, .inl h.2⟩
        · subst h; right; exact ⟨hy, .inr rfl⟩
    · have hy2 : d.2 < c.2 := by omega
      rw [if_neg hy]
      refine ⟨vreg_snoc.2 ⟨hv, hc2, fine_one hc1, fun v hvm => ?_⟩, fun x y => ?_, .inr ⟨p0 ++ [d], c, _, [], c.1, rfl, rfl⟩⟩
      · rcases List.mem_append.1 hvm with hvm | hvm
        · have := hlt v hvm; show v.1 < c.2; simp at this; omega
        · have e : v = (d.2, rs ++ [(a, d.1 + 1)]) := by simpa using hvm
          subst e; exact hy2
      · have := hm x y
        rw [memC_snoc]
        simp only [Bool.or_eq_true, Bool.and_eq_true, beq_iff_eq, mem_iff, List.mem_singleton]
        have e : (x, y) ∈ p0 ++ [d] ++ [c] ↔ (x, y) ∈ p0 ++ [d] ∨ (x, y) = c := by simp [List.mem_append, or_assoc]
        rw [this, e]
        constructor
        · rintro (h | ⟨h1, r, h2, h3, h4⟩)
          · exact .inl h
          · subst h2
            have : x = c.1 := by simp at h3 h4; omega
            right; rw [this, ← h1]
        · rintro (h | h)
          · exact .inl h
          · right; rw [← h]; exact ⟨rfl, _, rfl, Int.le_refl _, by simp; omega⟩
theorem ofTo_inv {L : List (Int × Int)} (hr : ∀ c ∈ L, okCell c = true) (hs : (L.map keyC).Pairwise (· ≤ ·)) : ∀ i, i ≤ L.length → OfInv (ofTo L i) (L.take i)
  | 0, _ => ⟨vreg_nil, fun x y => by simp [ofTo, memC], .inl ⟨rfl, rfl⟩⟩
  | i + 1, hi => by
    obtain ⟨c, hc⟩ : ∃ c, L[i]? = some c := ⟨_, List.getElem?_eq_getElem (by omega)⟩
    rw [ofTo_succ hc, List.take_add_one, hc]
    refine ofInv_step (ofTo_inv hr hs i (by omega)) (fun d hd => hr d (List.mem_of_mem_take hd)) (hr c (List.mem_of_getElem? hc)) fun d hd => ?_
    obtain ⟨k, hk, e⟩ := List.getElem_of_mem hd
    rw [List.length_take] at hk
    rw [List.getElem_take] at e
    rw [List.pairwise_map, List.pairwise_iff_getElem] at hs
    have hc2 := List.getElem?_eq_some_iff.1 hc
    obtain ⟨h3, h4⟩ := hc2
    have := hs k i (by omega) h3 (by omega)
    rwa [e, h4] at this
/-- a cell put into its place -/
def insK (c : Int × Int) : List (Int × Int) → List (Int × Int)
  | [] => [c]
  | d :: l => if keyC c ≤ keyC d then c :: d :: l else d :: insK c l
def srtK : List (Int × Int) → List (Int × Int)
  | [] => []
  | c :: l => insK c (srtK l)
theorem insK_mem (c : Int × Int) : ∀ (l : List (Int × Int)) (d : Int × Int), d ∈ insK c l ↔ d = c ∨ d ∈ l
  | [], d => by simp [insK]
  | e :: l, d => by
    unfold insK
    split
    · simp
    · rw [List.mem_cons, insK_mem c l d, List.mem_cons]
      constructor
      · rintro (h | h | h)
        · exact .inr (.inl h)
        · exact .inl h
        · exact .inr (.inr h)
      · rintro (h | h | h)
        · exact .inr (.inl h)
        · exact .inl h
        · exact .inr (.inr h)
theorem insK_sorted (c : Int × Int) : ∀ {l : List (Int × Int)}, l.Pairwise (fun a b => keyC a ≤ keyC b) → (insK c l).Pairwise (fun a b => keyC a ≤ keyC b)
  | [], _ => List.pairwise_singleton _ _
  | d :: l, h => by
    unfold insK
    rw [List.pairwise_cons] at h
    split
    · rename_i hcd
      refine List.pairwise_cons.2 ⟨fun e he => ?_, List.pairwise_cons.2 h⟩
      rcases List.mem_cons.1 he with rfl | he
      · exact hcd
      · exact Int.le_trans hcd (h.1 e he)
    · rename_i hcd
      refine List.pairwise_cons.2 ⟨fun e he => ?_, insK_sorted c h.2⟩
      rcases (insK_mem c l e).1 he with rfl | he
      · omega
      · exact h.1 e he
theorem srtK_mem : ∀ (l : List (Int × Int)) (d : Int × Int), d ∈ srtK l ↔ d ∈ l
  | [], d => by simp [srtK]
  | c :: l, d => by rw [srtK, insK_mem, srtK_mem l d, List.mem_cons]
theorem srtK_sorted : ∀ (l : List (Int × Int)), (srtK l).Pairwise (fun a b => keyC a ≤ keyC b)
  | [] => List.Pairwise.nil
  | c :: l => insK_sorted c (srtK_sorted l)
/-- the region of the cells, and the error -/
def ofE (l : List (Int × Int)) : Int := if l.all okCell then 0 else 8
def ofR (l : List (Int × Int)) : List Row := if l.all okCell then ofTo (srtK l) (srtK l).length else []
theorem ofR_spec {l : List (Int × Int)} (h : l.all okCell = true) : rvalid (ofR l) = true ∧ ∀ x y, memC (ofR l) x y = true ↔ (x, y) ∈ l := by
  have := ofTo_inv (L := srtK l) (fun c hc => List.all_eq_true.1 h c ((srtK_mem l c).1 hc)) (List.pairwise_map.2 (srtK_sorted l)) _ (Nat.le_refl _)
  unfold ofR
  rw [if_pos h]
  refine ⟨rvalid_iff.2 this.1, fun x y => ?_⟩
  rw [this.2.1 x y, List.take_length, srtK_mem]
theorem ofR_valid (l : List (Int × Int)) : rvalid (ofR l) = true := by
  cases h : l.all okCell
  · unfold ofR; rw [h]; exact rvalid_nil
  · exact (ofR_spec h).1
theorem ofR_is {l L : List (Int × Int)} (h : l.all okCell = true) (hp : ∀ c, c ∈ L ↔ c ∈ l) (hs : (L.map keyC).Pairwise (· ≤ ·)) : ofTo L L.length = ofR l := by
  have h1 := ofTo_inv (L := L) (fun c hc => List.all_eq_true.1 h c ((hp c).1 hc)) hs _ (Nat.le_refl _)
  have h2 := ofR_spec h
  refine vreg_ext h1.1 (rvalid_iff.1 h2.1) fun x y => ?_
  rw [Bool.eq_iff_iff, h1.2.1 x y, h2.2 x y, List.take_length]
  exact hp _
theorem ofR_ext {l : List (Int × Int)} {r : List Row} (h : l.all okCell = true) (hv : rvalid r = true) (hm : ∀ x y, memC r x y = true ↔ (x, y) ∈ l) : ofR l = r := by
  have h2 := ofR_spec h
  refine vreg_ext (rvalid_iff.1 h2.1) (rvalid_iff.1 hv) fun x y => ?_
  rw [Bool.eq_iff_iff, h2.2 x y, hm]
end Reg
end Go.Proofs.YtneelidbgigehaaGreat
/- The chapter's region of a list of cells: its small functions and its sorting. -/
namespace Go.Proofs.YtneelidbgigehaaGreat
set_option linter.unusedSimpArgs false
set_option linter.unusedVariables false
open Go.RowKit Runs Reg
attribute [local go_sem] Kin.cell Kin.frozen Kin.lt0 Kin.lt1 Kin.lt2 Kin.lt3 run_mkf
/-- small numbers: the order of cells is that of their keys -/
def smC (c : Int × Int) : Prop := -9223372036854775808 ≤ c.1 ∧ c.1 ≤ 9223372036854775807
theorem key_lt {a b : Int × Int} (ha : smC a) (hb : smC b) : keyC a < keyC b ↔ a.2 < b.2 ∨ a.2 = b.2 ∧ a.1 < b.1 := by
  unfold keyC; unfold smC at ha hb; omega
end Go.Proofs.YtneelidbgigehaaGreat

/- Chapter 19 in plain words: where nothing is inside; the region of polygons. -/
namespace Go.Proofs.YtneelidbgigehaaGreat
set_option linter.unusedSimpArgs false
set_option linter.unusedVariables false
namespace Ras
open Runs Reg
def hi (cy : Int) (q : P2) : Int := if cy < q.2 then 1 else 0
/-- whether the center of a cell is inside -/
def inP (l : List (List P2)) (pitch x y : Int) : Bool := decide (0 < wind l (ctr x pitch, ctr y pitch))
end Ras
end Go.Proofs.YtneelidbgigehaaGreat

/- Maps whose keys are structs of two ints, with whatever elements: told as functions. -/
namespace Go.Proofs.YtneelidbgigehaaGreat
set_option linter.unusedSimpArgs false
set_option linter.unusedVariables false
open Go Go.Maps Go.RowKit
abbrev Key := Int × Int
def kv (c : Key) : Value := .agg #[.int .i64 c.1, .int .i64 c.2]
def kl (c : Key) : Lit := .string (keyBytes [.int .i64 c.1, .int .i64 c.2])
def wfK (c : Key) : Prop := (Lit.int .i64 c.1).wf = true ∧ (Lit.int .i64 c.2).wf = true
/-- an element is told by itself -/
def heldR (v : Value) : Option (DataW Value × List MemPlace) := some (.held v, [])
/-- the key's type: a struct of two ints -/
structure KeyT (P : Program) (K : TypeId) : Prop where
  law : Keyed P K
  key : ∀ c : Key, wfK c → keyOf P K (kv c) = some (kl c)
  inv : ∀ (v : Value) (l : Lit), keyOf P K v = some l → ∃ c : Key, v = kv c ∧ wfK c ∧ l = kl c
section
variable {P : Program} {K : TypeId}
theorem KeyT.inj (T : KeyT P K) {c d : Key} (hc : wfK c) (hd : wfK d) (h : kl c = kl d) : c = d := by
  have := T.law.inj (T.key c hc) (by rw [h]; exact T.key d hd)
  unfold kv at this
  simp at this
  exact Prod.ext this.1 this.2
theorem KeyT.isKey (T : KeyT P K) {c : Key} (hc : wfK c) : WideAt.IsKeyLit (kl c) := T.law.key (T.key c hc)
/-- block b is a map of at most n entries that reads as F -/
def OwnM (P : Program) (K : TypeId) (w : World) (b n : Nat) (F : Key → Option Value) : Prop :=
  ∃ D, w.ownsMap P K heldR b n D ∧ ∀ c, wfK c → ∀ z, D.atKey (kl c) z = (match F c with | some v => .held v | none => z)
theorem OwnM.has {w : World} {b n : Nat} {F : Key → Option Value} {D : DataW Value} (h : ∀ c, wfK c → ∀ z, D.atKey (kl c) z = (match F c with | some v => .held v | none => z)) {c : Key} (hc : wfK c) : Maps.has D (kl c) = (F c).isSome := by
  cases hF : F c with
  | none => exact has_false_of_atKey fun z => by rw [h c hc, hF]
  | some v => exact has_true_of_atKey (y := .held v) fun z => by rw [h c hc, hF]
def updM (F : Key → Option Value) (c : Key) (v : Value) : Key → Option Value := fun d => if d = c then some v else F d
def delM (F : Key → Option Value) (c : Key) : Key → Option Value := fun d => if d = c then none else F d
theorem OwnM.made (w : World) : OwnM P K (w.alloc (.map #[] 0)) w.heap.size 0 (fun _ => none) :=
  ⟨_, World.ownsMap_made w P K heldR, fun c hc z => rfl⟩
theorem OwnM.mono {w : World} {b n n' : Nat} {F : Key → Option Value} (h : OwnM P K w b n F) (hn : n ≤ n') : OwnM P K w b n' F := by
  obtain ⟨D, h1, h2⟩ := h; exact ⟨D, h1.mono hn, h2⟩
theorem OwnM.lt {w : World} {b n : Nat} {F : Key → Option Value} (h : OwnM P K w b n F) : b < w.heap.size := by
  obtain ⟨D, h1, h2⟩ := h; exact h1.lt
theorem OwnM.kept {w w' : World} {b n : Nat} {F : Key → Option Value} {row : Option Nat} (h : OwnM P K w b n F) (hg : w.grownBy w' row) (hne : some b ≠ row) : OwnM P K w' b n F := by
  obtain ⟨D, h1, h2⟩ := h; exact ⟨D, h1.kept hg hne, h2⟩
theorem OwnM.ext {w : World} {b n : Nat} {F G : Key → Option Value} (h : OwnM P K w b n F) (e : ∀ c, wfK c → F c = G c) : OwnM P K w b n G := by
  obtain ⟨D, h1, h2⟩ := h; exact ⟨D, h1, fun c hc z => by rw [h2 c hc, e c hc]⟩
theorem OwnM.alloc {w : World} {b n : Nat} {F : Key → Option Value} (h : OwnM P K w b n F) (o : Obj) : OwnM P K (w.alloc o) b n F := by
  obtain ⟨D, h1, h2⟩ := h; exact ⟨D, h1.alloc o, h2⟩
theorem OwnM.drew {w : World} {b n : Nat} {F : Key → Option Value} (h : OwnM P K w b n F) : OwnM P K w.drew b n F := by
  obtain ⟨D, h1, h2⟩ := h; exact ⟨D, h1.drew, h2⟩
theorem OwnM.setCell {w : World} {b n : Nat} {F : Key → Option Value} (h : OwnM P K w b n F) {a : Addr} (ha : b ≠ a.block) (u : Value) : OwnM P K (w.setCell a u) b n F := by
  obtain ⟨D, h1, h2⟩ := h; exact ⟨D, h1.setCell ha u, h2⟩
/-- the map stays what it is while nothing older than a bound changes -/
theorem OwnM.below {w w' : World} {b n B : Nat} {F : Key → Option Value} (h : OwnM P K w b n F) (hb : Below B w w') (hlt : b < B) : OwnM P K w' b n F := by
  obtain ⟨D, ⟨es, clock, h1, h2, h3, h4⟩, h5⟩ := h
  have hlt2 : b < w.heap.size := (Array.getElem?_eq_some_iff.1 h1).1
  refine ⟨D, ⟨es, clock, ?_, h2, h3, h4⟩, h5⟩
  rw [hb.block b hlt]; exact h1
theorem heldR_inv {v : Value} {y : DataW Value × List MemPlace} (h : heldR v = some y) : y = (.held v, []) := by unfold heldR at h; exact (Option.some.inj h).symm
theorem OwnM.look {w : World} {b n : Nat} {F : Key → Option Value} {t e : TypeId} (h : OwnM P K w b n F) (T : KeyT P K) (ht : P.underlying t = some (.map K e)) {z : Value} (hz : (zeroValue e).run P w = .ok z w) {c : Key} (hc : wfK c) :
    (Instr.lookup t (.map (some b)) (kv c) false).run P w = .ok ((F c).getD z) w := by
  obtain ⟨D, h1, h2⟩ := h
  obtain ⟨v, ps, hrun, hv⟩ := h1.lookup T.law ht hz (zd := .held z) (zp := []) rfl (T.key c hc)
  have e := heldR_inv hv
  injection e with e1 e2
  rw [h2 c hc] at e1
  rw [hrun]
  cases hF : F c with
  | none => rw [hF] at e1; injection e1 with e1; subst e1; rfl
  | some u => rw [hF] at e1; injection e1 with e1; subst e1; rfl
theorem OwnM.update {w : World} {b n : Nat} {F : Key → Option Value} {t e : TypeId} (h : OwnM P K w b n F) (T : KeyT P K) (ht : P.underlying t = some (.map K e)) (hn : n < maxLen) {c : Key} (hc : wfK c) (v : Value) :
    ∃ w', (Instr.mapUpdate t (.map (some b)) (kv c) v).run P w = .ok () w' ∧ OwnM P K w' b (n + 1) (updM F c v) ∧ w.grownBy w' (some b) ∧ w'.heap.size = w.heap.size := by
  obtain ⟨D, h1, h2⟩ := h
  have hi := h1.isMap
  obtain ⟨es, clock, hb, F', hs, rfl⟩ := h1
  obtain ⟨es', clock', hrun, F'', hput, _⟩ := Maps.fit_store (R' := heldR) T.law ht hb F' (Nat.lt_of_le_of_lt hs hn) (fun _ _ _ _ hz => hz) (T.key c hc) (yv := (.held v, [])) rfl
  have hg : w.grownBy (ChangeMaps.setBlock w b (.map es' clock')) (some b) := ⟨rfl, rfl, rfl, by simp [ChangeMaps.setBlock], fun i _ hi => ChangeMaps.heap_setBlock_other hb _ (fun e => hi (by rw [e]))⟩
  refine ⟨_, hrun, ⟨_, ⟨es', clock', ChangeMaps.heap_setBlock_same hb _, F'', ?_, rfl⟩, fun d hd z => ?_⟩, hg, by simp [ChangeMaps.setBlock]⟩
  · have e1 : es'.size = ((es'.toList.map (WideElems.rg P K heldR)).foldr DataW.insert []).length := by rw [length_sorted]; simp
    rw [e1, hput]
    unfold ChangeMaps.putKey
    rw [length_insert]
    have e2 := List.length_filter_le (ChangeMaps.notKey (kl c)) ((es.toList.map (WideElems.rg P K heldR)).foldr DataW.insert [])
    rw [length_sorted] at e2
    simp at e2
    omega
  · rw [hput, ← DataW.put_eq]
    unfold updM
    by_cases e : d = c
    · subst e
      rw [if_pos rfl, atKey_put_same hi (T.isKey hd)]
    · rw [if_neg e, atKey_put_other (fun e' => e (T.inj hd hc e')), h2 d hd]
theorem OwnM.drop {w : World} {b n : Nat} {F : Key → Option Value} {t e ty : TypeId} (h : OwnM P K w b n F) (T : KeyT P K) (ht : P.underlying t = some (.map K e)) {c : Key} (hc : wfK c) :
    ∃ w', (Builtin.delete_ #[t, K] ty #[.map (some b), kv c]).run P w = .ok (.tuple #[]) w' ∧ OwnM P K w' b n (delM F c) ∧ w.grownBy w' (some b) ∧ w'.heap.size = w.heap.size := by
  obtain ⟨D, h1, h2⟩ := h
  obtain ⟨es, clock, hb, F', hs, rfl⟩ := h1
  obtain ⟨es', hrun, F'', hle, hdel, _⟩ := Maps.fit_drop (ty := ty) T.law ht hb F' (T.key c hc)
  have hg : w.grownBy (ChangeMaps.setBlock w b (.map es' clock)) (some b) := ⟨rfl, rfl, rfl, by simp [ChangeMaps.setBlock], fun i _ hi => ChangeMaps.heap_setBlock_other hb _ (fun e => hi (by rw [e]))⟩
  refine ⟨_, hrun, ⟨_, ⟨es', clock, ChangeMaps.heap_setBlock_same hb _, F'', Nat.le_trans hle hs, rfl⟩, fun d hd z => ?_⟩, hg, by simp [ChangeMaps.setBlock]⟩
  rw [hdel, ← DataW.del_eq]
  unfold delM
  by_cases e : d = c
  · subst e
    rw [if_pos rfl, atKey_del_same]
  · rw [if_neg e, atKey_del_other (fun e' => e (T.inj hd hc e')), h2 d hd]
end
section
variable {P : Program} (w : World) {ops : Array Oper} {rest : List Oper} {o : Oper} {a : Act} {Q : Exit → Act → World → Prop}
/-- 'm[k]' at the operation -/
theorem wpList_look (hg : o.guard = none) (m x : Operand) (t : TypeId) (hop : o.op = Op.lookup t m x false) (K e : TypeId) (T : KeyT P K) (ht : P.underlying t = some (.map K e)) (z : Value) (hz : (zeroValue e).run P w = .ok z w) (b n : Nat) (F : Key → Option Value)
    (hm : a.eval m = .map (some b)) (hown : OwnM P K w b n F) (c : Key) (hx : a.eval x = kv c) (hc : wfK c) (hK : wpList P ops Q rest (a.put o.dst ((F c).getD z)) w) : wpList P ops Q (o :: rest) a w := by
  refine wpList_plain hg fun K' hK' => ?_
  have hrun := hown.look T ht hz hc
  unfold Oper.wp
  simp [execOp, hop, hm, hx, hrun, Result.andThen]
  exact hK' _ _ hK
/-- 'm[k] = v' at the operation -/
theorem wpList_upd (hg : o.guard = none) (m x v : Operand) (t : TypeId) (hop : o.op = Op.mapUpdate t m x v) (K e : TypeId) (T : KeyT P K) (ht : P.underlying t = some (.map K e)) (b n : Nat) (F : Key → Option Value)
    (hm : a.eval m = .map (some b)) (hown : OwnM P K w b n F) (hn : n < maxLen) (c : Key) (val : Value) (hx : a.eval x = kv c) (hv : a.eval v = val) (hc : wfK c)
    (hK : ∀ w', OwnM P K w' b (n + 1) (updM F c val) → w.grownBy w' (some b) → w'.heap.size = w.heap.size → wpList P ops Q rest (a.put o.dst undef) w') : wpList P ops Q (o :: rest) a w := by
  refine wpList_plain hg fun K' hK' => ?_
  obtain ⟨w', hrun, r1, r2, r3⟩ := hown.update T ht hn hc val
  unfold Oper.wp
  simp [execOp, hop, hm, hx, hv, hrun, Result.andThen]
  exact hK' _ _ (hK w' r1 r2 r3)
end
end Go.Proofs.YtneelidbgigehaaGreat

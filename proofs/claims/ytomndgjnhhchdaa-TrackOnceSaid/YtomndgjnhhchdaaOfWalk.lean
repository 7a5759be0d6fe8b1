/- The region of a list of cells; with no program in sight. (joined: OfMath OfWalk) -/
import Derived.Test.YtomndgjnhhchdaaRegMathB
import Derived.Deep.RegionLaw
import Derived.Deep.RegionHeld
import Derived.Test.YtomndgjnhhchdaaRegCells
import Derived.Test.YtomndgjnhhchdaaRegBounds
/- The region of a list of cells; with no program in sight. -/
namespace Go.Proofs.Ytomndgjnhhchdaa
set_option linter.unusedSimpArgs false
set_option linter.unusedVariables false
namespace Reg
open Runs
/-- the place of a cell in the order of cells -/
def keyC (c : Int × Int) : Int := c.2 * 36893488147419103232 + c.1
def okCell (c : Int × Int) : Bool := okC c.1 && okC c.2
theorem okC_iff {x : Int} : okC x = true ↔ -4096 ≤ x ∧ x < 4096 := by simp [okC]
theorem okCell_iff {c : Int × Int} : okCell c = true ↔ (-4096 ≤ c.1 ∧ c.1 < 4096) ∧ -4096 ≤ c.2 ∧ c.2 < 4096 := by simp [okCell, okC]
/-- swapped places of a list -/
def swpG {α : Type} (L : List α) (k : Nat) (a b : α) : List α := (L.set k a).set (k - 1) b
theorem swpG_len {α : Type} (L : List α) (k : Nat) (a b : α) : (swpG L k a b).length = L.length := by simp [swpG]
theorem swpG_perm {α : Type} {L : List α} {k : Nat} {a b : α} (h0 : 0 < k) (ha : L[k - 1]? = some a) (hb : L[k]? = some b) : (swpG L k a b).Perm L := by
  obtain ⟨h1, e1⟩ := List.getElem?_eq_some_iff.1 ha
  obtain ⟨h2, e2⟩ := List.getElem?_eq_some_iff.1 hb
  subst e1 e2
  unfold swpG
  exact List.set_set_perm (by omega) (by omega)
theorem at_map {α : Type} {f : α → Int} {L : List α} {k : Nat} {a : α} (h : L[k]? = some a) : at_ (L.map f) k = f a := by simp [at_, h]
theorem swpG_map {α : Type} (f : α → Int) {L : List α} {k : Nat} {a b : α} (ha : L[k - 1]? = some a) (hb : L[k]? = some b) : (swpG L k a b).map f = swp (L.map f) k := by
  unfold swpG swp
  rw [List.map_set, List.map_set, at_map ha, at_map hb]
def withL (l : List Run) (x : Int) : List Run := match l.getLast? with
  | none => [(x, x + 1)]
  | some r => if x < r.2 then l else if x = r.2 then l.dropLast ++ [(r.1, x + 1)] else l ++ [(x, x + 1)]
def addC (rows : List Row) (c : Int × Int) : List Row := match rows.getLast? with
  | none => [(c.2, withL [] c.1)]
  | some r => if r.1 = c.2 then rows.dropLast ++ [(r.1, withL r.2 c.1)] else rows ++ [(c.2, withL [] c.1)]
def ofTo (L : List (Int × Int)) (i : Nat) : List Row := (L.take i).foldl addC []
theorem ofTo_succ {L : List (Int × Int)} {i : Nat} {c : Int × Int} (h : L[i]? = some c) : ofTo L (i + 1) = addC (ofTo L i) c := by
  unfold ofTo; rw [List.take_add_one, h]; simp
theorem withL_nil (x : Int) : withL [] x = [(x, x + 1)] := rfl
theorem withL_last (E : List Run) (r : Run) (x : Int) : withL (E ++ [r]) x = if x < r.2 then E ++ [r] else if x = r.2 then E ++ [(r.1, x + 1)] else E ++ [r] ++ [(x, x + 1)] := by simp [withL]
theorem addC_nil (c : Int × Int) : addC [] c = [(c.2, [(c.1, c.1 + 1)])] := rfl
theorem addC_last (E : List Row) (r : Row) (c : Int × Int) : addC (E ++ [r]) c = if r.1 = c.2 then E ++ [(r.1, withL r.2 c.1)] else E ++ [r] ++ [(c.2, [(c.1, c.1 + 1)])] := by simp [addC, withL_nil]
theorem vreg_snoc {rows : List Row} {w : Row} : VReg (rows ++ [w]) ↔ VReg rows ∧ okC w.1 = true ∧ fine w.2 = true ∧ ∀ v ∈ rows, v.1 < w.1 := by
  simp only [VReg, List.mem_append, List.mem_singleton, List.pairwise_append]
  constructor
  · rintro ⟨h1, h2, _, h3⟩
    exact ⟨⟨fun v hv => h1 v (.inl hv), h2⟩, (h1 w (.inr rfl)).1, (h1 w (.inr rfl)).2, fun v hv => h3 v hv w rfl⟩
  · rintro ⟨⟨h1, h2⟩, h3, h4, h5⟩
    exact ⟨fun v hv => by rcases hv with hv | rfl; exact h1 v hv; exact ⟨h3, h4⟩, h2, List.pairwise_singleton _ _, fun v hv u hu => by subst hu; exact h5 v hv⟩
theorem memC_snoc (rows : List Row) (w : Row) (x y : Int) : memC (rows ++ [w]) x y = (memC rows x y || (w.1 == y && mem w.2 x)) := by simp [memC]
theorem mem_snoc (l : List Run) (r : Run) (x : Int) : mem (l ++ [r]) x = (mem l x || inR r x) := by simp [mem]
theorem fine_one {x : Int} (h : okC x = true) : fine [(x, x + 1)] = true := by
  rw [okC_iff] at h
  refine fine_iff.2 ⟨sep_cons.2 ⟨by show x < x + 1; omega, by simp, sep_nil⟩, ?_, by simp⟩
  intro r hr
  have e : r = (x, x + 1) := by simpa using hr
  subst e; show -4096 ≤ x ∧ x + 1 ≤ 4096; omega
theorem fine_snoc {l : List Run} {a b : Int} : fine (l ++ [(a, b)]) = true ↔ Sep l ∧ (∀ r ∈ l, -4096 ≤ r.1 ∧ r.2 ≤ 4096) ∧ (∀ r ∈ l, r.2 < a) ∧ a < b ∧ -4096 ≤ a ∧ b ≤ 4096 := by
  rw [fine_iff, sep_append]
  constructor
  · rintro ⟨⟨h1, h2, h3⟩, h4, _⟩
    exact ⟨h1, fun r hr => h4 r (by simp [hr]), fun r hr => h3 r hr (a, b) (by simp), h2.1 (a, b) (by simp), (h4 (a, b) (by simp)).1, (h4 (a, b) (by simp)).2⟩
  · rintro ⟨h1, h2, h3, h4, h5, h6⟩
    refine ⟨⟨h1, sep_cons.2 ⟨h4, by simp, sep_nil⟩, fun q hq r hr => ?_⟩, fun r hr => ?_, by simp⟩
    · have e : r = (a, b) := by simpa using hr
      subst e; exact h3 q hq
    · rcases List.mem_append.1 hr with hr | hr
      · exact h2 r hr
      · have e : r = (a, b) := by simpa using hr
        subst e; exact ⟨h5, h6⟩
/-- the rows of the cells so far -/
def OfInv (rows : List Row) (pre : List (Int × Int)) : Prop := VReg rows ∧ (∀ x y, memC rows x y = true ↔ (x, y) ∈ pre) ∧ ((pre = [] ∧ rows = []) ∨ ∃ p0 c E rs a, pre = p0 ++ [c] ∧ rows = E ++ [(c.2, rs ++ [(a, c.1 + 1)])])
theorem ofInv_step {rows : List Row} {pre : List (Int × Int)} {c : Int × Int} (h : OfInv rows pre) (hp : ∀ d ∈ pre, okCell d = true) (hc : okCell c = true) (hk : ∀ d ∈ pre, keyC d ≤ keyC c) : OfInv (addC rows c) (pre ++ [c]) := by
  obtain ⟨hv, hm, hl⟩ := h
  have hcb := okCell_iff.1 hc
  have hc1 : okC c.1 = true := okC_iff.2 hcb.1
  have hc2 : okC c.2 = true := okC_iff.2 hcb.2
  rcases hl with ⟨rfl, rfl⟩ | ⟨p0, d, E, rs, a, rfl, rfl⟩
  · rw [addC_nil]
    refine ⟨vreg_snoc (rows := []).2 ⟨vreg_nil, hc2, fine_one hc1, by simp⟩, fun x y => ?_, .inr ⟨[], c, [], [], c.1, rfl, rfl⟩⟩
    rw [show [(c.2, [(c.1, c.1 + 1)])] = ([] : List Row) ++ [(c.2, [(c.1, c.1 + 1)])] from rfl, memC_snoc, memC_nil, Bool.false_or, Bool.and_eq_true]
    simp only [beq_iff_eq, mem_iff, List.nil_append, List.mem_singleton]
    constructor
    · rintro ⟨h1, r, h2, h3, h4⟩
      subst h2
      have : x = c.1 := by simp at h3 h4; omega
      rw [this, ← h1]
    · intro h1
      rw [← h1]
      exact ⟨rfl, _, rfl, Int.le_refl _, by simp; omega⟩
  · have hd := hp d (by simp)
    have hdb := okCell_iff.1 hd
    have hkd := hk d (by simp)
    unfold keyC at hkd
    obtain ⟨hvE, hd2, hf, hlt⟩ := vreg_snoc.1 hv
    rw [addC_last]
    by_cases hy : d.2 = c.2
    · have hx : d.1 ≤ c.1 := by omega
      rw [if_pos hy]
      have hff := fine_snoc.1 hf
      have key : fine (withL (rs ++ [(a, d.1 + 1)]) c.1) = true ∧ (∀ x, mem (withL (rs ++ [(a, d.1 + 1)]) c.1) x = true ↔ mem (rs ++ [(a, d.1 + 1)]) x = true ∨ x = c.1) ∧ ∃ rs' a', withL (rs ++ [(a, d.1 + 1)]) c.1 = rs' ++ [(a', c.1 + 1)] := by
        rw [withL_last]
        have hin : ∀ (r : Run) (x : Int), inR r x = true ↔ r.1 ≤ x ∧ x < r.2 := fun r x => by simp [inR]
        by_cases h1 : c.1 < d.1 + 1
        · have e : c.1 = d.1 := by omega
          rw [if_pos h1]
          refine ⟨hf, fun x => ?_, rs, a, by rw [e]⟩
          rw [mem_snoc, Bool.or_eq_true, hin]
          constructor
          · exact .inl
          · rintro (h | h)
            · exact h
            · right; simp; omega
        · rw [if_neg h1]
          by_cases h2 : c.1 = d.1 + 1
          · rw [if_pos h2]
            refine ⟨fine_snoc.2 ⟨hff.1, hff.2.1, hff.2.2.1, by simp; omega, hff.2.2.2.2.1, by omega⟩, fun x => ?_, rs, a, rfl⟩
            rw [mem_snoc, mem_snoc, Bool.or_eq_true, Bool.or_eq_true, hin, hin]
            simp
            constructor
            · rintro (h | h)
              · exact .inl (.inl h)
              · by_cases h3 : x < d.1 + 1
                · exact .inl (.inr ⟨h.1, h3⟩)
                · right; omega
            · rintro ((h | h) | h)
              · exact .inl h
              · right; omega
              · right; have := hff.2.2.2.1; omega
          · rw [if_neg h2]
            refine ⟨fine_snoc.2 ⟨(fine_iff.1 hf).1, (fine_iff.1 hf).2.1, fun r hr => ?_, by omega, by omega, by omega⟩, fun x => ?_, _, c.1, rfl⟩
            · rcases List.mem_append.1 hr with hr | hr
              · have := hff.2.2.1 r hr
                have := hff.2.2.2.1
                omega
              · have e : r = (a, d.1 + 1) := by simpa using hr
                subst e; show d.1 + 1 < c.1; omega
            · rw [mem_snoc, Bool.or_eq_true, hin]
              constructor
              · rintro (h | h)
                · exact .inl h
                · right; simp at h; omega
              · rintro (h | h)
                · exact .inl h
                · right; simp; omega
      obtain ⟨k1, k2, rs', a', k3⟩ := key
      refine ⟨vreg_snoc.2 ⟨hvE, hd2, k1, hlt⟩, fun x y => ?_, .inr ⟨p0 ++ [d], c, E, rs', a', rfl, by rw [k3, hy]⟩⟩
      have := hm x y
      rw [memC_snoc] at this ⊢
      simp only [Bool.or_eq_true, Bool.and_eq_true, beq_iff_eq, k2] at this ⊢
      rw [List.mem_append, ← this, List.mem_singleton]
      constructor
      · rintro (h | ⟨h, h3 | h3⟩)
        · exact .inl (.inl h)
        · exact .inl (.inr ⟨h, h3⟩)
        · right; rw [h3, ← h, hy]
      · rintro ((h | h) | h)
        · exact .inl h
        · exact .inr ⟨h.1, .inl h.2⟩
        · subst h; right; exact ⟨hy, .inr rfl⟩
    · have hy2 : d.2 < c.2 := by omega
      rw [if_neg hy]
      refine ⟨vreg_snoc.2 ⟨hv, hc2, fine_one hc1, fun v hvm => ?_⟩, fun x y => ?_, .inr ⟨p0 ++ [d], c, _, [], c.1, rfl, rfl⟩⟩
      · rcases List.mem_append.1 hvm with hvm | hvm
        · have := hlt v hvm; show v.1 < c.2; simp at this; omega
        · have e : v = (d.2, rs ++ [(a, d.1 + 1)]) := by simpa using hvm
          subst e; exact hy2
      · have := hm x y
        rw [memC_snoc]
        simp only [Bool.or_eq_true, Bool.and_eq_true, beq_iff_eq, mem_iff, List.mem_singleton]
        have e : (x, y) ∈ p0 ++ [d] ++ [c] ↔ (x, y) ∈ p0 ++ [d] ∨ (x, y) = c := by simp [List.mem_append, or_assoc]
        rw [this, e]
        constructor
        · rintro (h | ⟨h1, r, h2, h3, h4⟩)
          · exact .inl h
          · subst h2
            have : x = c.1 := by simp at h3 h4; omega
            right; rw [this, ← h1]
        · rintro (h | h)
          · exact .inl h
          · right; rw [← h]; exact ⟨rfl, _, rfl, Int.le_refl _, by simp; omega⟩
theorem ofTo_inv {L : List (Int × Int)} (hr : ∀ c ∈ L, okCell c = true) (hs : (L.map keyC).Pairwise (· ≤ ·)) : ∀ i, i ≤ L.length → OfInv (ofTo L i) (L.take i)
  | 0, _ => ⟨vreg_nil, fun x y => by simp [ofTo, memC], .inl ⟨rfl, rfl⟩⟩
  | i + 1, hi => by
    obtain ⟨c, hc⟩ : ∃ c, L[i]? = some c := ⟨_, List.getElem?_eq_getElem (by omega)⟩
    rw [ofTo_succ hc, List.take_add_one, hc]
    refine ofInv_step (ofTo_inv hr hs i (by omega)) (fun d hd => hr d (List.mem_of_mem_take hd)) (hr c (List.mem_of_getElem? hc)) fun d hd => ?_
    obtain ⟨k, hk, e⟩ := List.getElem_of_mem hd
    rw [List.length_take] at hk
    rw [List.getElem_take] at e
    rw [List.pairwise_map, List.pairwise_iff_getElem] at hs
    have hc2 := List.getElem?_eq_some_iff.1 hc
    obtain ⟨h3, h4⟩ := hc2
    have := hs k i (by omega) h3 (by omega)
    rwa [e, h4] at this
/-- a cell put into its place -/
def insK (c : Int × Int) : List (Int × Int) → List (Int × Int)
  | [] => [c]
  | d :: l => if keyC c ≤ keyC d then c :: d :: l else d :: insK c l
def srtK : List (Int × Int) → List (Int × Int)
  | [] => []
  | c :: l => insK c (srtK l)
theorem insK_mem (c : Int × Int) : ∀ (l : List (Int × Int)) (d : Int × Int), d ∈ insK c l ↔ d = c ∨ d ∈ l
  | [], d => by simp [insK]
  | e :: l, d => by
    unfold insK
    split
    · simp
    · rw [List.mem_cons, insK_mem c l d, List.mem_cons]
      constructor
      · rintro (h | h | h)
        · exact .inr (.inl h)
        · exact .inl h
        · exact .inr (.inr h)
      · rintro (h | h | h)
        · exact .inr (.inl h)
        · exact .inl h
        · exact .inr (.inr h)
theorem insK_sorted (c : Int × Int) : ∀ {l : List (Int × Int)}, l.Pairwise (fun a b => keyC a ≤ keyC b) → (insK c l).Pairwise (fun a b => keyC a ≤ keyC b)
  | [], _ => List.pairwise_singleton _ _
  | d :: l, h => by
    unfold insK
    rw [List.pairwise_cons] at h
    split
    · rename_i hcd
      refine List.pairwise_cons.2 ⟨fun e he => ?_, List.pairwise_cons.2 h⟩
      rcases List.mem_cons.1 he with rfl | he
      · exact hcd
      · exact Int.le_trans hcd (h.1 e he)
    · rename_i hcd
      refine List.pairwise_cons.2 ⟨fun e he => ?_, insK_sorted c h.2⟩
      rcases (insK_mem c l e).1 he with rfl | he
      · omega
      · exact h.1 e he
theorem srtK_mem : ∀ (l : List (Int × Int)) (d : Int × Int), d ∈ srtK l ↔ d ∈ l
  | [], d => by simp [srtK]
  | c :: l, d => by rw [srtK, insK_mem, srtK_mem l d, List.mem_cons]
theorem srtK_sorted : ∀ (l : List (Int × Int)), (srtK l).Pairwise (fun a b => keyC a ≤ keyC b)
  | [] => List.Pairwise.nil
  | c :: l => insK_sorted c (srtK_sorted l)
/-- the region of the cells, and the error -/
def ofE (l : List (Int × Int)) : Int := if l.all okCell then 0 else 8
def ofR (l : List (Int × Int)) : List Row := if l.all okCell then ofTo (srtK l) (srtK l).length else []
theorem ofR_spec {l : List (Int × Int)} (h : l.all okCell = true) : rvalid (ofR l) = true ∧ ∀ x y, memC (ofR l) x y = true ↔ (x, y) ∈ l := by
  have := ofTo_inv (L := srtK l) (fun c hc => List.all_eq_true.1 h c ((srtK_mem l c).1 hc)) (List.pairwise_map.2 (srtK_sorted l)) _ (Nat.le_refl _)
  unfold ofR
  rw [if_pos h]
  refine ⟨rvalid_iff.2 this.1, fun x y => ?_⟩
  rw [this.2.1 x y, List.take_length, srtK_mem]
theorem ofR_valid (l : List (Int × Int)) : rvalid (ofR l) = true := by
  cases h : l.all okCell
  · unfold ofR; rw [h]; exact rvalid_nil
  · exact (ofR_spec h).1
theorem ofR_is {l L : List (Int × Int)} (h : l.all okCell = true) (hp : ∀ c, c ∈ L ↔ c ∈ l) (hs : (L.map keyC).Pairwise (· ≤ ·)) : ofTo L L.length = ofR l := by
  have h1 := ofTo_inv (L := L) (fun c hc => List.all_eq_true.1 h c ((hp c).1 hc)) hs _ (Nat.le_refl _)
  have h2 := ofR_spec h
  refine vreg_ext h1.1 (rvalid_iff.1 h2.1) fun x y => ?_
  rw [Bool.eq_iff_iff, h1.2.1 x y, h2.2 x y, List.take_length]
  exact hp _
theorem ofR_ext {l : List (Int × Int)} {r : List Row} (h : l.all okCell = true) (hv : rvalid r = true) (hm : ∀ x y, memC r x y = true ↔ (x, y) ∈ l) : ofR l = r := by
  have h2 := ofR_spec h
  refine vreg_ext (rvalid_iff.1 h2.1) (rvalid_iff.1 hv) fun x y => ?_
  rw [Bool.eq_iff_iff, h2.2 x y, hm]
end Reg
end Go.Proofs.Ytomndgjnhhchdaa
/- The chapter's region of a list of cells: its small functions and its sorting. -/
namespace Go.Proofs.Ytomndgjnhhchdaa
set_option linter.unusedSimpArgs false
set_option linter.unusedVariables false
open Go.RowKit Runs Reg
attribute [local go_sem] Kin.cell Kin.frozen Kin.lt0 Kin.lt1 Kin.lt2 Kin.lt3 run_mkf
set_option maxRecDepth 100000 in
theorem inRange18_any (x y : Int) (w : World) :
    Calls Try.prog 55 #[.agg #[.int .i64 x, .int .i64 y]] w fun e w' => e = .returned (.bool (okCell (x, y))) ∧ Below w.heap.size w w' := by
  go_enter Try.func55, Try.ntmps55
  go_wp2
  all_goals
    go_ret
    exact ⟨ret_bool (by first | (simp [okCell, okC]; done) | (rw [Bool.eq_iff_iff]; simp [okCell, okC]; omega)), (by repeat (first | with_reducible (first | exact blA | exact blB | refine blC _ ?_ | refine blD ?_ ?_ _ | refine blE ?_ | refine blF _ ?_ | refine blG ?_ _ | refine blH ?_ | refine blI ?_ ?_ _) | (simp only [World.size_alloc]; omega) | (simp <;> omega)))⟩
theorem inRange18_is {b : Bool} (c : Int × Int) (w : World) (hb : okCell c = b) :
    Calls Try.prog 55 #[.agg #[.int .i64 c.1, .int .i64 c.2]] w fun e w' => e = .returned (.bool b) ∧ Below w.heap.size w w' := by
  subst hb; exact inRange18_any c.1 c.2 w
/-- small numbers: the order of cells is that of their keys -/
def smC (c : Int × Int) : Prop := -9223372036854775808 ≤ c.1 ∧ c.1 ≤ 9223372036854775807
theorem key_lt {a b : Int × Int} (ha : smC a) (hb : smC b) : keyC a < keyC b ↔ a.2 < b.2 ∨ a.2 = b.2 ∧ a.1 < b.1 := by
  unfold keyC; unfold smC at ha hb; omega
set_option maxRecDepth 100000 in
theorem before18_is {r : Bool} (a b : Int × Int) (w : World) (ha : smC a) (hb : smC b) (hr : decide (keyC a < keyC b) = r) :
    Calls Try.prog 63 #[.agg #[.int .i64 a.1, .int .i64 a.2], .agg #[.int .i64 b.1, .int .i64 b.2]] w fun e w' => e = .returned (.bool r) ∧ Below w.heap.size w w' := by
  subst hr
  have hk := Lib.hid (key_lt ha hb)
  clear ha hb
  go_enter Try.func63, Try.ntmps63
  go_wp2
  all_goals
    go_ret
    refine ⟨ret_bool ?_, (by repeat (first | with_reducible (first | exact blA | exact blB | refine blC _ ?_ | refine blD ?_ ?_ _ | refine blE ?_ | refine blF _ ?_ | refine blG ?_ _ | refine blH ?_ | refine blI ?_ ?_ _) | (simp only [World.size_alloc]; omega) | (simp <;> omega)))⟩
    rw [Bool.eq_iff_iff]
    simp only [decide_eq_true_eq]
    have h := hk.out
    first
      | omega
      | (simp; omega)
theorem ownC_cells {base g n cap : Nat} {W : World} {L : List (Int × Int)} (h : OwnC base W (.slice (some ⟨g, 0, none⟩) n cap) L) {j : Nat} {c : Int × Int} (hj : L[j]? = some c) : W.cell? ⟨g, j * 2, none⟩ = some (.int .i64 c.1) ∧ W.cell? ⟨g, j * 2 + 1, none⟩ = some (.int .i64 c.2) := by
  obtain ⟨A, cap', hv, _, ho⟩ := Rd.own encPt_len h.own
  injection hv with e1 e2 e3
  rcases ho with ho | ⟨b, off, e, _, hc⟩
  · rw [ho] at hj; simp at hj
  · rw [e] at e1
    injection e1 with e1
    injection e1 with e1 e4 _
    subst e1 e4
    have h0 := hc j c hj 0 _ rfl
    have h1 := hc j c hj 1 _ rfl
    simp at h0 h1
    exact ⟨h0, h1⟩
theorem ownC_len {base g n cap : Nat} {W : World} {L : List (Int × Int)} (h : OwnC base W (.slice (some ⟨g, 0, none⟩) n cap) L) : n = L.length := by
  obtain ⟨A, cap', hv, _, _⟩ := Rd.own encPt_len h.own
  injection hv
theorem ownC_set {base g n cap k : Nat} {W : World} {L : List (Int × Int)} {c : Int × Int} (h : OwnC base W (.slice (some ⟨g, 0, none⟩) n cap) L) (hk : k < L.length) : OwnC base ((W.setCell ⟨g, k * 2, none⟩ (.int .i64 c.1)).setCell ⟨g, k * 2 + 1, none⟩ (.int .i64 c.2)) (.slice (some ⟨g, 0, none⟩) n cap) (L.set k c) := by
  have hn := ownC_len h
  subst hn
  have := own_set (y := c) encPt_len rfl h.own k hk
  unfold OwnC
  rw [List.length_set]
  exact this
set_option maxRecDepth 100000 in
set_option maxHeartbeats 16000000 in
theorem sorted18_any (v : Value) (l : List (Int × Int)) (w : World) (h : Rd 2 encPt w v l) (hsm : ∀ c ∈ l, smC c) (hlen : l.length ≤ 1099511627776) :
    Calls Try.prog 56 #[v] w fun e w' => (∃ r L, e = .returned r ∧ Rd 2 encPt w' r L ∧ L.Perm l ∧ (L.map keyC).Pairwise (· ≤ ·)) ∧ Below w.heap.size w w' := by
  have HSM := Lib.hid hsm
  have HV := Lib.hid h
  obtain ⟨A, capA, rfl, hcapA, hopA⟩ := h.open_
  have HA := Lib.hid hopA
  have HLA := Lib.hid h
  clear hopA h
  clear hsm
  go_enter Try.func56, Try.ntmps56
  go_wp2_with (at_builtin; refine wpList_app _ rfl _ _ 22 rfl encPt_len (by decide) oneP w.heap.size 31 (.agg #[.int .i64 0, .int .i64 0]) 16 infoCell rfl Try.underlying22 _ _ _ _ rfl (own_made _ encPt_len w.heap.size _ [] #[] rfl (by repeat (first | with_reducible exact Nat.le_refl _ | assumption | with_reducible refine le_alloc ?_ _ | with_reducible refine le_drew ?_ | with_reducible refine Kin.le _ ?_ | assumption | omega | (simp only [World.size_alloc]; omega))) (by decide)) _ _ _ rfl (HV.out.below (by repeat (first | with_reducible (first | exact blA | exact blB | refine blC _ ?_ | refine blD ?_ ?_ _ | refine blE ?_ | refine blF _ ?_ | refine blG ?_ _ | refine blH ?_ | refine blI ?_ ?_ _) | (simp only [World.size_alloc]; omega) | (simp <;> omega)))) ?c1 (by decide) ?c2 ?_; (case c1 => (first | (simp only [List.length_append, List.length_cons, List.length_nil]; omega) | omega | (simp; omega))); (case c2 => exact (by repeat (first | with_reducible exact Nat.le_refl _ | assumption | with_reducible refine le_alloc ?_ _ | with_reducible refine le_drew ?_ | with_reducible refine Kin.le _ ?_ | assumption | omega | (simp only [World.size_alloc]; omega)))); intro v' w1 hown' hg hbel hat'; (obtain ⟨y, rfl⟩ : ∃ y : Kin w, y.1 = w1 := ⟨⟨w1, Below.trans (by repeat (first | with_reducible (first | exact blA | exact blB | refine blC _ ?_ | refine blD ?_ ?_ _ | refine blE ?_ | refine blF _ ?_ | refine blG ?_ _ | refine blH ?_ | refine blI ?_ ?_ _) | (simp only [World.size_alloc]; omega) | (simp <;> omega))) hbel⟩, rfl⟩); clear hbel hg hat')
  have HO := Lib.hid (show OwnC w.heap.size y.1 v' l from hown')
  clear hown' HV HLA HA
  rcases HO.out.2 with ⟨rfl, h0⟩ | ⟨g, cap, cur, rfl, hgb, hg, hn, hcap, hsz, htk⟩
  · have hnil : l = [] := List.eq_nil_of_length_eq_zero h0
    go_wp2
    go_loopw [4] (fun i wr => i = .int .i64 1 ∧ Hid (Below w.heap.size w wr)) (fun _ _ => 0)
    case atStart => exact ⟨rfl, Lib.hid y.2⟩
    case round =>
      obtain ⟨rfl, hyB⟩ := hrel
      go_wp2
      go_ret
      exact ⟨⟨_, [], rfl, Rd.nil, by rw [hnil], List.Pairwise.nil⟩, hyB.out⟩
  · clear hg hn hcap hsz htk
    go_wp2
    go_loopw [4] (fun i wr => ∃ k : Nat, 1 ≤ k ∧ (k ≤ l.length ∨ k = 1) ∧ i = .int .i64 k ∧ ∃ L : List (Int × Int), Hid (L.Perm l ∧ SortTo (L.map keyC) k) ∧ Hid (OwnC w.heap.size wr (.slice (some ⟨g, 0, none⟩) l.length cap) L) ∧ Hid (Below w.heap.size w wr)) (fun i _ => l.length - (intOf i).toNat)
    case atStart => exact ⟨1, Nat.le_refl _, .inr rfl, by simp, l, Lib.hid ⟨List.Perm.refl _, fun p q h1 h2 => by omega⟩, HO, Lib.hid y.2⟩
    case round =>
      clear HO
      obtain ⟨k, hk1, hk2, rfl, L, HS, HO, hyB⟩ := hrel
      obtain ⟨y1, rfl⟩ : ∃ y : Kin w, y.1 = wr := ⟨⟨wr, hyB.out⟩, rfl⟩
      clear hyB
      by_cases hlt : k < l.length
      · go_wp2
        go_loopw [5] (fun i wr => ∃ m : Nat, m ≤ k ∧ i = .int .i64 m ∧ ∃ L : List (Int × Int), Hid (L.Perm l ∧ InsI (L.map keyC) k m) ∧ Hid (OwnC w.heap.size wr (.slice (some ⟨g, 0, none⟩) l.length cap) L) ∧ Hid (Below w.heap.size w wr)) (fun i _ => (intOf i).toNat)
        case atStart => exact ⟨k, Nat.le_refl _, rfl, L, Lib.hid ⟨HS.out.1, ins_start HS.out.2⟩, HO, Lib.hid y1.2⟩
        case round =>
          clear HS HO
          obtain ⟨m, hm, rfl, L, HS, HO, hyB⟩ := hrel
          obtain ⟨y2, rfl⟩ : ∃ y : Kin w, y.1 = wr := ⟨⟨wr, hyB.out⟩, rfl⟩
          clear hyB
          have hLl := HS.out.1.length_eq
          by_cases hm0 : m = 0
          · have hd := Lib.hid (ins_done HS.out.2 hm (.inl hm0))
            go_wp2
            ((refine wp_region_kinK (W := w) (by kernel_rfl) (by kernel_rfl) (by repeat (first | with_reducible (first | exact blA | exact blB | refine blC _ ?_ | refine blD ?_ ?_ _ | refine blE ?_ | refine blF _ ?_ | refine blG ?_ _ | refine blH ?_ | refine blI ?_ ?_ _) | (simp only [World.size_alloc]; omega) | (simp <;> omega))) ?_); (repeat' (first | go_big_quiet_step (fail) | ((refine wpQuiet_guard rfl rfl rfl rfl (fun hg => ?_) (fun hg => ?_)) <;> (fail_if_success (first | guard_hyp hg : true = true | guard_hyp hg : false = false)) <;> (try simp only [decide_eq_true_eq, decide_eq_false_iff_not] at hg) <;> simp only [Act.put, List.setIfInBounds_toArray, List.set_cons_zero, List.set_cons_succ]))); all_goals ((with_reducible refine wpQuiet_nil ?_); intro zq hz))
            go_wp2
            go_roundw
            case rel => exact ⟨k + 1, by omega, by omega, by go_num, L, Lib.hid ⟨HS.out.1, hd.out⟩, Lib.hid (own_below HO.out hz), Lib.hid zq.2⟩
            case measure => simp [intOf]; omega
          · obtain ⟨b, hb⟩ : ∃ b, L[m]? = some b := ⟨_, List.getElem?_eq_getElem (by omega)⟩
            obtain ⟨a, ha⟩ : ∃ a, L[m - 1]? = some a := ⟨_, List.getElem?_eq_getElem (by omega)⟩
            obtain ⟨b_0, b_1⟩ := ownC_cells HO.out hb
            obtain ⟨a_0, a_1⟩ := ownC_cells HO.out ha
            have hsb := HSM.out b (HS.out.1.mem_iff.1 (List.mem_of_getElem? hb))
            have hsa := HSM.out a (HS.out.1.mem_iff.1 (List.mem_of_getElem? ha))
            have HA := Lib.hid ha
            have HB := Lib.hid hb
            have hO := HO.out.own
            rw [hLl] at hO
            have f1 : y2.1.frozen? ⟨g, m * 2, none⟩ = false := hO.frozenAt _
            have f2 : y2.1.frozen? ⟨g, m * 2 + 1, none⟩ = false := hO.frozenAt _
            have f3 : y2.1.frozen? ⟨g, (m - 1) * 2, none⟩ = false := hO.frozenAt _
            have f4 : y2.1.frozen? ⟨g, (m - 1) * 2 + 1, none⟩ = false := hO.frozenAt _
            clear hO ha hb
            have hgl := (HO.out.own.lt g rfl).2
            have hgl2 : g < y2.1.heap.size + 1 := Nat.lt_succ_of_lt hgl
            have hmi : (0 : Int) < (m : Int) := by omega
            have hmL : m < l.length := by omega
            have hw1 : IntKind.i64.wrap ((m : Int) - 1) = (m : Int) - 1 := IntWalk.i64_in _ (by omega)
            have hw2 : ((m : Int) - 1).toNat = m - 1 := by omega
            have hw3 : 0 ≤ (m : Int) - 1 := by omega
            have hw4 : m - 1 < l.length := by omega
            cases hbf : decide (keyC b < keyC a)
            · have hd := Lib.hid (ins_done HS.out.2 hm (.inr (show at_ (L.map keyC) (m - 1) ≤ at_ (L.map keyC) m by rw [at_map HA.out, at_map HB.out]; simpa using hbf)))
              go_wp2
              ((refine wp_region_kinK (W := (Kin.wd y2)) (by kernel_rfl) (by kernel_rfl) (by repeat (first | with_reducible (first | exact blA | exact blB | refine blC _ ?_ | refine blD ?_ ?_ _ | refine blE ?_ | refine blF _ ?_ | refine blG ?_ _ | refine blH ?_ | refine blI ?_ ?_ _) | (simp only [World.size_alloc]; omega) | (simp <;> omega))) ?_); (repeat' (first | go_big_quiet_step ((go_at_call 63; exact Kin.quiet _ (before18_is b a _ hsb hsa hbf))) | ((refine wpQuiet_guard rfl rfl rfl rfl (fun hg => ?_) (fun hg => ?_)) <;> (fail_if_success (first | guard_hyp hg : true = true | guard_hyp hg : false = false)) <;> (try simp only [decide_eq_true_eq, decide_eq_false_iff_not] at hg) <;> simp only [Act.put, List.setIfInBounds_toArray, List.set_cons_zero, List.set_cons_succ]))); all_goals ((with_reducible refine wpQuiet_nil ?_); intro zq hz))
              all_goals
                go_wp2
                have hzb := y2.2.trans (zq.2.mono y2.2.size)
                have hLz := Lib.hid (own_below HO.out zq.2)
                go_roundw
                case rel => exact ⟨k + 1, by omega, by omega, by go_num, L, Lib.hid ⟨HS.out.1, hd.out⟩, hLz, Lib.hid hzb⟩
                case measure => simp [intOf]; omega
            · have hsw : at_ (L.map keyC) m < at_ (L.map keyC) (m - 1) := by rw [at_map HA.out, at_map HB.out]; simpa using hbf
              go_wp2
              ((refine wp_region_kinK (W := (Kin.wd y2)) (by kernel_rfl) (by kernel_rfl) (by repeat (first | with_reducible (first | exact blA | exact blB | refine blC _ ?_ | refine blD ?_ ?_ _ | refine blE ?_ | refine blF _ ?_ | refine blG ?_ _ | refine blH ?_ | refine blI ?_ ?_ _) | (simp only [World.size_alloc]; omega) | (simp <;> omega))) ?_); (repeat' (first | go_big_quiet_step ((go_at_call 63; exact Kin.quiet _ (before18_is b a _ hsb hsa hbf))) | ((refine wpQuiet_guard rfl rfl rfl rfl (fun hg => ?_) (fun hg => ?_)) <;> (fail_if_success (first | guard_hyp hg : true = true | guard_hyp hg : false = false)) <;> (try simp only [decide_eq_true_eq, decide_eq_false_iff_not] at hg) <;> simp only [Act.put, List.setIfInBounds_toArray, List.set_cons_zero, List.set_cons_succ]))); all_goals ((with_reducible refine wpQuiet_nil ?_); intro zq hz))
              all_goals try (exfalso; omega)
              all_goals
                go_wp2
                have hzb := y2.2.trans (zq.2.mono y2.2.size)
                have hLz := Lib.hid (own_below HO.out zq.2)
                go_roundw
                case rel => exact ⟨m - 1, by omega, by rw [show ((m - 1 : Nat) : Int) = (m : Int) - 1 by omega], swpG L m a b, Lib.hid ⟨(swpG_perm (by omega) HA.out HB.out).trans HS.out.1, by rw [swpG_map keyC HA.out HB.out]; exact ins_step HS.out.2 (by omega) hm (by rw [List.length_map]; omega) hsw⟩, Lib.hid (OwnC.own (ownC_set (ownC_set hLz.out (by omega)) (by rw [List.length_set]; omega)) |>.alloc _), Lib.hid (Below.alloc (Below.setCell (Below.setCell (Below.setCell (Below.setCell hzb hgb _) hgb _) hgb _) hgb _) (by have := hzb.size; simpa using this) _)⟩
                case measure => simp [intOf]; omega
      · go_wp2
        go_ret
        have hLl := HS.out.1.length_eq
        exact ⟨⟨_, L, rfl, Rd.own encPt_len (by rw [hLl]; have := HO.out.own; rwa [hLl] at this), HS.out.1, sort_done (fun p q h1 h2 => HS.out.2 p q h1 (by rw [List.length_map] at h2; omega))⟩, (by repeat (first | with_reducible (first | exact blA | exact blB | refine blC _ ?_ | refine blD ?_ ?_ _ | refine blE ?_ | refine blF _ ?_ | refine blG ?_ _ | refine blH ?_ | refine blI ?_ ?_ _) | (simp only [World.size_alloc]; omega) | (simp <;> omega)))⟩

/-- runs with a number behind them; the result may be the argument itself -/
theorem withL_len (l : List Run) (x : Int) : (withL l x).length ≤ l.length + 1 := by
  unfold withL
  split
  · simp
  · split
    · omega
    · split <;> simp
theorem own_at {W : World} {base n size : Nat} {e : TypeId} {v : Value} {xs : List Value} (h : W.ownsRow base e size v n xs) (hn : 0 < n) : ∃ b c, v = .slice (some ⟨b, 0, none⟩) n c ∧ base ≤ b := by
  rcases h.2 with ⟨rfl, h0⟩ | ⟨g, cap, cur, rfl, hg, _⟩
  · omega
  · exact ⟨g, cap, rfl, hg⟩
theorem withL_of {l : List Run} {x : Int} {r : Run} (hr : l[l.length - 1]? = some r) : withL l x = if x < r.2 then l else if x = r.2 then l.take (l.length - 1) ++ [(r.1, x + 1)] else l ++ [(x, x + 1)] := by
  unfold withL
  rw [List.getLast?_eq_getElem?, hr, List.dropLast_eq_take]
theorem with_own {w : World} {base : Nat} {v' : Value} {l : List Run} {q : Run} (h : w.ownsRow base 60 2 v' (l ++ [q]).length ((l ++ [q]).flatMap encRun)) {v : Value} :
    ∃ A c, Ending.returned v' = .returned (.slice A (l ++ [q]).length c) ∧ Rd 2 encRun w (.slice A (l ++ [q]).length c) (l ++ [q]) ∧ (v = .slice A (l ++ [q]).length c ∨ ∃ b, A = some ⟨b, 0, none⟩ ∧ base ≤ b) := by
  have hr := Rd.own encRun_len h
  obtain ⟨b, c, rfl, hb⟩ := own_at h (by simp)
  exact ⟨_, c, rfl, hr, .inr ⟨b, rfl, hb⟩⟩
set_option maxRecDepth 100000 in
set_option maxHeartbeats 8000000 in
theorem with18_any (v : Value) (l : List Run) (x : Int) (w : World) (h : Rd 2 encRun w v l) (hx : -4096 ≤ x ∧ x < 4096) (hlen : l.length ≤ 1048576) :
    Calls Try.prog 57 #[v, .int .i64 x] w fun e w' => (∃ A c, e = .returned (.slice A (withL l x).length c) ∧ Rd 2 encRun w' (.slice A (withL l x).length c) (withL l x) ∧ (v = .slice A (withL l x).length c ∨ ∃ b, A = some ⟨b, 0, none⟩ ∧ w.heap.size ≤ b)) ∧ Below w.heap.size w w' := by
  have HV := Lib.hid h
  obtain ⟨A, capA, rfl, hcapA, hopA⟩ := h.open_
  have HA := Lib.hid hopA
  have HLA := Lib.hid h
  clear hopA h
  have hwx : IntKind.i64.wrap (x + 1) = x + 1 := IntWalk.i64_in _ (by omega)
  rcases Nat.eq_zero_or_pos l.length with h0 | h0
  · have hnil : l = [] := List.eq_nil_of_length_eq_zero h0
    subst hnil
    clear h0 HA HLA
    go_enter Try.func57, Try.ntmps57
    go_wp2_with (first | (at_builtin; refine wpList_app _ rfl _ _ 56 rfl encRun_len (by decide) oneR w.heap.size 60 (.agg #[.int .i64 0, .int .i64 0]) 16 infoRun rfl Try.underlying56 _ _ _ _ rfl (own_made _ encRun_len w.heap.size _ [] #[] rfl (by repeat (first | with_reducible exact Nat.le_refl _ | assumption | with_reducible refine le_alloc ?_ _ | with_reducible refine le_drew ?_ | with_reducible refine Kin.le _ ?_ | assumption | omega | (simp only [World.size_alloc]; omega))) (by decide)) _ _ _ rfl (HV.out.below (by repeat (first | with_reducible (first | exact blA | exact blB | refine blC _ ?_ | refine blD ?_ ?_ _ | refine blE ?_ | refine blF _ ?_ | refine blG ?_ _ | refine blH ?_ | refine blI ?_ ?_ _) | (simp only [World.size_alloc]; omega) | (simp <;> omega)))) ?c1 (by decide) ?c2 ?_; (case c1 => (first | (simp only [List.length_append, List.length_cons, List.length_nil]; omega) | omega | (simp; omega))); (case c2 => exact (by repeat (first | with_reducible exact Nat.le_refl _ | assumption | with_reducible refine le_alloc ?_ _ | with_reducible refine le_drew ?_ | with_reducible refine Kin.le _ ?_ | assumption | omega | (simp only [World.size_alloc]; omega)))); intro v' w1 hown' hg hbel hat'; (obtain ⟨y, rfl⟩ : ∃ y : Kin w, y.1 = w1 := ⟨⟨w1, Below.trans (by repeat (first | with_reducible (first | exact blA | exact blB | refine blC _ ?_ | refine blD ?_ ?_ _ | refine blE ?_ | refine blF _ ?_ | refine blG ?_ _ | refine blH ?_ | refine blI ?_ ?_ _) | (simp only [World.size_alloc]; omega) | (simp <;> omega))) hbel⟩, rfl⟩); clear hbel hg hat') | (at_builtin; refine wpList_app _ rfl _ _ 56 rfl encRun_len (by decide) oneR w.heap.size 60 (.agg #[.int .i64 0, .int .i64 0]) 16 infoRun rfl Try.underlying56 _ _ _ _ rfl (hown'.alloc _) _ _ _ rfl (rd_one _ encRun_len _ (x, x + 1) _ rfl) ?c1 (by decide) ?c2 ?_; (case c1 => (first | (simp only [List.length_append, List.length_cons, List.length_nil]; omega) | omega | (simp; omega))); (case c2 => exact (by repeat (first | with_reducible exact Nat.le_refl _ | assumption | with_reducible refine le_alloc ?_ _ | with_reducible refine le_drew ?_ | with_reducible refine Kin.le _ ?_ | assumption | omega | (simp only [World.size_alloc]; omega)))); intro v' w1 hown' hg hbel hat'; (obtain ⟨y2, rfl⟩ : ∃ y : Kin w, y.1 = w1 := ⟨⟨w1, Below.trans (by repeat (first | with_reducible (first | exact blA | exact blB | refine blC _ ?_ | refine blD ?_ ?_ _ | refine blE ?_ | refine blF _ ?_ | refine blG ?_ _ | refine blH ?_ | refine blI ?_ ?_ _) | (simp only [World.size_alloc]; omega) | (simp <;> omega))) hbel⟩, rfl⟩); clear hbel hg hat'))
    go_ret
    exact ⟨with_own (l := []) hown', (by repeat (first | with_reducible (first | exact blA | exact blB | refine blC _ ?_ | refine blD ?_ ?_ _ | refine blE ?_ | refine blF _ ?_ | refine blG ?_ _ | refine blH ?_ | refine blI ?_ ?_ _) | (simp only [World.size_alloc]; omega) | (simp <;> omega)))⟩
  · have hlt : l.length - 1 < l.length := by omega
    obtain ⟨r, hr⟩ : ∃ el_, (l)[l.length - 1]? = some el_ := ⟨_, List.getElem?_eq_getElem (by first | exact hlt | omega)⟩
    obtain ⟨bA, offA, rfl, hbA, hcA⟩ := HA.out (l.length - 1) _ hr
    have r_0 : w.cell? ⟨bA, offA + (l.length - 1) * 2, none⟩ = some (.int .i64 r.1) := by exact hcA (l.length - 1) _ hr 0 _ rfl
    have r_1 : w.cell? ⟨bA, offA + (l.length - 1) * 2 + 1, none⟩ = some (.int .i64 r.2) := by exact hcA (l.length - 1) _ hr 1 _ rfl
    have hbA2 : bA < w.heap.size + 1 := by omega
    have HAc := Lib.hid hcA
    have Hr := Lib.hid hr
    clear hr hcA
    have hw1 : IntKind.i64.wrap ((l.length : Int) - 1) = (l.length : Int) - 1 := IntWalk.i64_in _ (by omega)
    have hw2 : ((l.length : Int) - 1).toNat = l.length - 1 := by omega
    have hw3 : 0 ≤ (l.length : Int) - 1 := by omega
    have hw5 : (0 : Int) < (l.length : Int) := by omega
    have hw8 : (l.length : Int) - 1 < (l.length : Int) := by omega
    have HW := Lib.hid (withL_of (x := x) Hr.out)
    by_cases c1 : x < r.2
    · have e : withL l x = l := by rw [HW.out, if_pos c1]
      rw [e]
      clear e
      go_enter Try.func57, Try.ntmps57
      go_wp2
      go_ret
      exact ⟨⟨_, _, rfl, HV.out, .inl rfl⟩, Below.refl _ _⟩
    by_cases c2 : x = r.2
    · have e : withL l x = l.take (l.length - 1) ++ [(r.1, x + 1)] := by rw [HW.out, if_neg c1, if_pos c2]
      rw [e]
      clear e
      have HT := Lib.hid (HV.out.take (m := l.length - 1) (by omega))
      obtain ⟨T, hT⟩ : ∃ T, T = l.take (l.length - 1) := ⟨_, rfl⟩
      have hTl : T.length = l.length - 1 := by rw [hT, List.length_take]; omega
      have hTl2 : T.length ≤ 1048576 := by omega
      have HTL := Lib.hid hTl
      rw [← hT] at HT ⊢
      clear hT hTl HW
      subst c2
      have hw6 : 1 ≤ (l.length : Int) := by omega
      have hw7 : (l.length : Int) - 1 ≤ (capA : Int) := by omega
      go_enter Try.func57, Try.ntmps57
      go_wp2
      have HM := Lib.hid (own_made w encRun_len w.heap.size 60 [] #[] rfl (Nat.le_refl _) (by decide))
      have HR1 := Lib.hid (rd_one (w.alloc (.cells #[] 60)) encRun_len 60 (r.1, r.2 + 1) _ rfl (b := w.heap.size + 1) (by simp))
      have HM2 := Lib.hid (show ((w.alloc (.cells #[.int .i64 r.1, .int .i64 (r.2 + 1)] 60)).alloc (.cells #[] 60)).ownsRow w.heap.size 60 2 (.slice (some ⟨w.heap.size + 1, 0, none⟩) 0 0) 0 (([] : List Run).flatMap encRun) from by
        have h := own_made (w.alloc (.cells #[.int .i64 r.1, .int .i64 (r.2 + 1)] 60)) encRun_len w.heap.size 60 [] #[] rfl (le_alloc (Nat.le_refl _) _) (by decide)
        rwa [World.size_alloc] at h)
      have HR2 := Lib.hid (rd_one w encRun_len 60 (r.1, r.2 + 1) _ rfl (b := w.heap.size) rfl)
      go_region_law (first
        | (skip; (refine step_app _ rfl _ _ 56 rfl encRun_len (by decide) oneR w.heap.size 60 (.agg #[.int .i64 0, .int .i64 0]) 16 infoRun rfl Try.underlying56 (.slice (some ⟨w.heap.size, 0, none⟩) 0 0) _ _ _ (by first | rfl | simp [Act.eval, Act.put]) (own_below HM.out (Below.drew (Below.refl _ _))) _ _ _ (by first | rfl | simp [Act.eval, Act.put]) (HT.out.below (Below.drew (Below.alloc (Below.refl _ _) (Nat.le_refl _) _))) ?c1 (by decide) ?c2 ?_; (case c1 => (first | (simp only [List.length_append, List.length_cons, List.length_nil]; omega) | omega | (simp; omega))); (case c2 => exact (by repeat (first | with_reducible exact Nat.le_refl _ | assumption | with_reducible refine le_alloc ?_ _ | with_reducible refine le_drew ?_ | with_reducible refine Kin.le _ ?_ | assumption | omega | (simp only [World.size_alloc]; omega)))); intro v' w1 hown' hg hbel hat'; ((obtain ⟨y, rfl⟩ : ∃ y : Kin w, y.1 = w1 := ⟨⟨w1, Below.trans (by repeat (first | with_reducible (first | exact blA | exact blB | refine blC _ ?_ | refine blD ?_ ?_ _ | refine blE ?_ | refine blF _ ?_ | refine blG ?_ _ | refine blH ?_ | refine blI ?_ ?_ _) | (simp only [World.size_alloc]; omega) | (simp <;> omega))) hbel⟩, rfl⟩); have HO1 := Lib.hid hown'; clear hown' hg hbel hat')))
        | (skip; (refine step_app _ rfl _ _ 56 rfl encRun_len (by decide) oneR w.heap.size 60 (.agg #[.int .i64 0, .int .i64 0]) 16 infoRun rfl Try.underlying56 (.slice (some ⟨w.heap.size, 0, none⟩) 0 0) _ _ _ (by first | rfl | simp [Act.eval, Act.put]) (own_below HM.out (Below.drew (Below.alloc (Below.refl _ _) (Nat.le_refl _) _))) _ _ _ (by first | rfl | simp [Act.eval, Act.put]) (HT.out.below (Below.drew (Below.alloc (Below.alloc (Below.refl _ _) (Nat.le_refl _) _) (le_alloc (Nat.le_refl _) _) _))) ?c1 (by decide) ?c2 ?_; (case c1 => (first | (simp only [List.length_append, List.length_cons, List.length_nil]; omega) | omega | (simp; omega))); (case c2 => exact (by repeat (first | with_reducible exact Nat.le_refl _ | assumption | with_reducible refine le_alloc ?_ _ | with_reducible refine le_drew ?_ | with_reducible refine Kin.le _ ?_ | assumption | omega | (simp only [World.size_alloc]; omega)))); intro v' w1 hown' hg hbel hat'; (have HS1 := Lib.hid ((HR1.out.below (Below.drew (Below.refl _ _))).grown hg (.inr (fun e => Nat.succ_ne_self _ (Option.some.inj e)))); (obtain ⟨y, rfl⟩ : ∃ y : Kin w, y.1 = w1 := ⟨⟨w1, Below.trans (by repeat (first | with_reducible (first | exact blA | exact blB | refine blC _ ?_ | refine blD ?_ ?_ _ | refine blE ?_ | refine blF _ ?_ | refine blG ?_ _ | refine blH ?_ | refine blI ?_ ?_ _) | (simp only [World.size_alloc]; omega) | (simp <;> omega))) hbel⟩, rfl⟩); have HO1 := Lib.hid hown'; clear hown' hg hbel hat')))
        | (skip; (refine step_app _ rfl _ _ 56 rfl encRun_len (by decide) oneR w.heap.size 60 (.agg #[.int .i64 0, .int .i64 0]) 16 infoRun rfl Try.underlying56 (.slice (some ⟨w.heap.size + 1, 0, none⟩) 0 0) _ _ _ (by first | rfl | simp [Act.eval, Act.put]) (own_below HM2.out (Below.drew (Below.refl _ _))) _ _ _ (by first | rfl | simp [Act.eval, Act.put]) (HT.out.below (Below.drew (Below.alloc (Below.alloc (Below.refl _ _) (Nat.le_refl _) _) (le_alloc (Nat.le_refl _) _) _))) ?c1 (by decide) ?c2 ?_; (case c1 => (first | (simp only [List.length_append, List.length_cons, List.length_nil]; omega) | omega | (simp; omega))); (case c2 => exact (by repeat (first | with_reducible exact Nat.le_refl _ | assumption | with_reducible refine le_alloc ?_ _ | with_reducible refine le_drew ?_ | with_reducible refine Kin.le _ ?_ | assumption | omega | (simp only [World.size_alloc]; omega)))); intro v' w1 hown' hg hbel hat'; (have HS1 := Lib.hid ((HR2.out.below (Below.drew (Below.alloc (Below.refl _ _) (Nat.le_refl _) _))).grown hg (.inr (fun e => Nat.succ_ne_self _ (Option.some.inj e).symm))); (obtain ⟨y, rfl⟩ : ∃ y : Kin w, y.1 = w1 := ⟨⟨w1, Below.trans (by repeat (first | with_reducible (first | exact blA | exact blB | refine blC _ ?_ | refine blD ?_ ?_ _ | refine blE ?_ | refine blF _ ?_ | refine blG ?_ _ | refine blH ?_ | refine blI ?_ ?_ _) | (simp only [World.size_alloc]; omega) | (simp <;> omega))) hbel⟩, rfl⟩); have HO1 := Lib.hid hown'; clear hown' hg hbel hat')))
        | (skip; (refine step_app _ rfl _ _ 56 rfl encRun_len (by decide) oneR w.heap.size 60 (.agg #[.int .i64 0, .int .i64 0]) 16 infoRun rfl Try.underlying56 (v') _ _ _ (by first | rfl | simp [Act.eval, Act.put]) (HO1.out.alloc _) _ _ _ (by first | rfl | simp [Act.eval, Act.put]) (rd_one _ encRun_len _ (r.1, r.2 + 1) _ rfl) ?c1 (by decide) ?c2 ?_; (case c1 => (first | (simp only [List.length_append, List.length_cons, List.length_nil]; omega) | omega | (simp; omega))); (case c2 => exact (by repeat (first | with_reducible exact Nat.le_refl _ | assumption | with_reducible refine le_alloc ?_ _ | with_reducible refine le_drew ?_ | with_reducible refine Kin.le _ ?_ | assumption | omega | (simp only [World.size_alloc]; omega)))); intro v2 w2 hown2 hg hbel hat'; ((obtain ⟨y2, rfl⟩ : ∃ y : Kin w, y.1 = w2 := ⟨⟨w2, Below.trans (by repeat (first | with_reducible (first | exact blA | exact blB | refine blC _ ?_ | refine blD ?_ ?_ _ | refine blE ?_ | refine blF _ ?_ | refine blG ?_ _ | refine blH ?_ | refine blI ?_ ?_ _) | (simp only [World.size_alloc]; omega) | (simp <;> omega))) hbel⟩, rfl⟩); have HO2 := Lib.hid hown2; clear hown2 hg hbel hat')))
        | (skip; (refine step_app _ rfl _ _ 56 rfl encRun_len (by decide) oneR w.heap.size 60 (.agg #[.int .i64 0, .int .i64 0]) 16 infoRun rfl Try.underlying56 (v') _ _ _ (by first | rfl | simp [Act.eval, Act.put]) (HO1.out) _ _ _ (by first | rfl | simp [Act.eval, Act.put]) (HS1.out) ?c1 (by decide) ?c2 ?_; (case c1 => (first | (simp only [List.length_append, List.length_cons, List.length_nil]; omega) | omega | (simp; omega))); (case c2 => exact (by repeat (first | with_reducible exact Nat.le_refl _ | assumption | with_reducible refine le_alloc ?_ _ | with_reducible refine le_drew ?_ | with_reducible refine Kin.le _ ?_ | assumption | omega | (simp only [World.size_alloc]; omega)))); intro v2 w2 hown2 hg hbel hat'; ((obtain ⟨y2, rfl⟩ : ∃ y : Kin w, y.1 = w2 := ⟨⟨w2, Below.trans (by repeat (first | with_reducible (first | exact blA | exact blB | refine blC _ ?_ | refine blD ?_ ?_ _ | refine blE ?_ | refine blF _ ?_ | refine blG ?_ _ | refine blH ?_ | refine blI ?_ ?_ _) | (simp only [World.size_alloc]; omega) | (simp <;> omega))) hbel⟩, rfl⟩); have HO2 := Lib.hid hown2; clear hown2 hg hbel hat'))))
      all_goals
        go_wp2
        go_ret
        exact ⟨with_own (l := T) HO2.out, (by repeat (first | with_reducible (first | exact blA | exact blB | refine blC _ ?_ | refine blD ?_ ?_ _ | refine blE ?_ | refine blF _ ?_ | refine blG ?_ _ | refine blH ?_ | refine blI ?_ ?_ _) | (simp only [World.size_alloc]; omega) | (simp <;> omega)))⟩
    · have e : withL l x = l ++ [(x, x + 1)] := by rw [HW.out, if_neg c1, if_neg c2]
      rw [e]
      clear e HW
      have c3 : r.2 < x := by omega
      go_enter Try.func57, Try.ntmps57
      go_wp2_with (first | (at_builtin; refine wpList_app _ rfl _ _ 56 rfl encRun_len (by decide) oneR w.heap.size 60 (.agg #[.int .i64 0, .int .i64 0]) 16 infoRun rfl Try.underlying56 _ _ _ _ rfl (own_made _ encRun_len w.heap.size _ [] #[] rfl (by repeat (first | with_reducible exact Nat.le_refl _ | assumption | with_reducible refine le_alloc ?_ _ | with_reducible refine le_drew ?_ | with_reducible refine Kin.le _ ?_ | assumption | omega | (simp only [World.size_alloc]; omega))) (by decide)) _ _ _ rfl (HV.out.below (by repeat (first | with_reducible (first | exact blA | exact blB | refine blC _ ?_ | refine blD ?_ ?_ _ | refine blE ?_ | refine blF _ ?_ | refine blG ?_ _ | refine blH ?_ | refine blI ?_ ?_ _) | (simp only [World.size_alloc]; omega) | (simp <;> omega)))) ?c1 (by decide) ?c2 ?_; (case c1 => (first | (simp only [List.length_append, List.length_cons, List.length_nil]; omega) | omega | (simp; omega))); (case c2 => exact (by repeat (first | with_reducible exact Nat.le_refl _ | assumption | with_reducible refine le_alloc ?_ _ | with_reducible refine le_drew ?_ | with_reducible refine Kin.le _ ?_ | assumption | omega | (simp only [World.size_alloc]; omega)))); intro v' w1 hown' hg hbel hat'; (obtain ⟨y, rfl⟩ : ∃ y : Kin w, y.1 = w1 := ⟨⟨w1, Below.trans (by repeat (first | with_reducible (first | exact blA | exact blB | refine blC _ ?_ | refine blD ?_ ?_ _ | refine blE ?_ | refine blF _ ?_ | refine blG ?_ _ | refine blH ?_ | refine blI ?_ ?_ _) | (simp only [World.size_alloc]; omega) | (simp <;> omega))) hbel⟩, rfl⟩); clear hbel hg hat') | (at_builtin; refine wpList_app _ rfl _ _ 56 rfl encRun_len (by decide) oneR w.heap.size 60 (.agg #[.int .i64 0, .int .i64 0]) 16 infoRun rfl Try.underlying56 _ _ _ _ rfl (hown'.alloc _) _ _ _ rfl (rd_one _ encRun_len _ (x, x + 1) _ rfl) ?c1 (by decide) ?c2 ?_; (case c1 => (first | (simp only [List.length_append, List.length_cons, List.length_nil]; omega) | omega | (simp; omega))); (case c2 => exact (by repeat (first | with_reducible exact Nat.le_refl _ | assumption | with_reducible refine le_alloc ?_ _ | with_reducible refine le_drew ?_ | with_reducible refine Kin.le _ ?_ | assumption | omega | (simp only [World.size_alloc]; omega)))); intro v' w1 hown' hg hbel hat'; (obtain ⟨y2, rfl⟩ : ∃ y : Kin w, y.1 = w1 := ⟨⟨w1, Below.trans (by repeat (first | with_reducible (first | exact blA | exact blB | refine blC _ ?_ | refine blD ?_ ?_ _ | refine blE ?_ | refine blF _ ?_ | refine blG ?_ _ | refine blH ?_ | refine blI ?_ ?_ _) | (simp only [World.size_alloc]; omega) | (simp <;> omega))) hbel⟩, rfl⟩); clear hbel hg hat'))
      go_ret
      obtain ⟨A2, c2, e1, e2, e3⟩ := with_own (v := .bool true) (l := l) (q := (x, x + 1)) hown'
      exact ⟨⟨A2, c2, by simpa using e1, by simpa using e2, by simpa using e3⟩, (by repeat (first | with_reducible (first | exact blA | exact blB | refine blC _ ?_ | refine blD ?_ ?_ _ | refine blE ?_ | refine blF _ ?_ | refine blG ?_ _ | refine blH ?_ | refine blI ?_ ?_ _) | (simp only [World.size_alloc]; omega) | (simp <;> omega)))⟩
end Go.Proofs.Ytomndgjnhhchdaa

/- Lemmas: RegOper. -/
import Derived.Test.YtneelidbgigehaaGreatT02
import Derived.Test.YtneelidbgigehaaGreatT31
import Derived.Test.YtneelidbgigehaaGreatT07
/- Merging the rows of two regions; with no program in sight. -/
namespace Go.Proofs.YtneelidbgigehaaGreat
set_option linter.unusedSimpArgs false
set_option linter.unusedVariables false
namespace Reg
open Runs
/-- M: the rows that the first i rows of a and the first k rows of b lie in -/
def MInv (a b : List Row) (i k : Nat) (M : List Int) : Prop :=
  Asc M ∧ (∀ y, y ∈ M ↔ (∃ j r, j < i ∧ a[j]? = some r ∧ r.1 = y) ∨ (∃ j r, j < k ∧ b[j]? = some r ∧ r.1 = y)) ∧
  (∀ y ∈ M, ∀ (j : Nat) r, i ≤ j → a[j]? = some r → y < r.1) ∧ (∀ y ∈ M, ∀ (j : Nat) r, k ≤ j → b[j]? = some r → y < r.1)
theorem minv_start (a b : List Row) : MInv a b 0 0 [] := ⟨List.Pairwise.nil, fun y => by simp, by simp, by simp⟩
theorem row_lt {rows : List Row} (h : VReg rows) {i j : Nat} {r q : Row} (hr : rows[i]? = some r) (hq : rows[j]? = some q) (hij : i < j) : r.1 < q.1 := by
  obtain ⟨hi, rfl⟩ := List.getElem?_eq_some_iff.1 hr
  obtain ⟨hj, rfl⟩ := List.getElem?_eq_some_iff.1 hq
  exact List.pairwise_iff_getElem.1 h.2 i j hi hj hij
theorem rwAt_of {rows : List Row} (h : VReg rows) {i : Nat} {r : Row} (hr : rows[i]? = some r) : rwAt rows r.1 = r.2 := by
  rcases rwAt_cases rows r.1 with ⟨w, hw, e1, e2⟩ | ⟨h1, _⟩
  · obtain ⟨j, hj, rfl⟩ := List.getElem_of_mem hw
    have hq : rows[j]? = some rows[j] := List.getElem?_eq_getElem hj
    rcases Nat.lt_trichotomy i j with h2 | h2 | h2
    · have := row_lt h hr hq h2; omega
    · subst h2; rw [hq] at hr; injection hr with hr; rw [e2, hr]
    · have := row_lt h hq hr h2; omega
  · exact absurd rfl (h1 r (List.mem_of_getElem? hr))
theorem rwAt_none {rows : List Row} {y : Int} (h : ∀ (j : Nat) r, rows[j]? = some r → r.1 ≠ y) : rwAt rows y = [] := by
  rcases rwAt_cases rows y with ⟨w, hw, e1, _⟩ | ⟨_, h2⟩
  · obtain ⟨j, hj, rfl⟩ := List.getElem_of_mem hw
    exact absurd e1 (h j _ (List.getElem?_eq_getElem hj))
  · exact h2
theorem asc_snoc {M : List Int} {y : Int} (h : Asc M) (hy : ∀ x ∈ M, x < y) : Asc (M ++ [y]) := by
  unfold Asc at *
  rw [List.pairwise_append]
  exact ⟨h, by simp, fun x hx z hz => by rw [List.mem_singleton.1 hz]; exact hy x hx⟩
theorem minv_a {a b : List Row} {i k : Nat} {M : List Int} (h : MInv a b i k M) (va : VReg a) (vb : VReg b) {r : Row} (hr : a[i]? = some r) (hlt : ∀ q, b[k]? = some q → r.1 < q.1) :
    MInv a b (i + 1) k (M ++ [r.1]) ∧ rwAt a r.1 = r.2 ∧ rwAt b r.1 = [] := by
  obtain ⟨h1, h2, h3, h4⟩ := h
  have hM : ∀ x ∈ M, x < r.1 := fun x hx => h3 x hx i r (Nat.le_refl _) hr
  have hb : ∀ (j : Nat) q, k ≤ j → b[j]? = some q → r.1 < q.1 := fun j q hj hq => by
    have hjl := (List.getElem?_eq_some_iff.1 hq).1
    have hk : b[k]? = some b[k] := List.getElem?_eq_getElem (by omega)
    have h5 := hlt _ hk
    rcases Nat.eq_or_lt_of_le hj with h6 | h6
    · subst h6; rw [hq] at hk; injection hk with hk; rw [hk]; exact h5
    · have := row_lt vb hk hq h6; omega
  refine ⟨⟨asc_snoc h1 hM, fun y => ?_, fun y hy j q hj hq => ?_, fun y hy j q hj hq => ?_⟩, rwAt_of va hr, rwAt_none fun j q hq e => ?_⟩
  · rw [List.mem_append, h2, List.mem_singleton]
    constructor
    · rintro ((⟨j, q, hj, hq, e⟩ | h5) | h5)
      · exact .inl ⟨j, q, by omega, hq, e⟩
      · exact .inr h5
      · exact .inl ⟨i, r, by omega, hr, h5.symm⟩
    · rintro (⟨j, q, hj, hq, e⟩ | h5)
      · rcases Nat.lt_or_ge j i with h6 | h6
        · exact .inl (.inl ⟨j, q, h6, hq, e⟩)
        · have : j = i := by omega
          subst this; rw [hr] at hq; injection hq with hq; rw [← hq] at e; exact .inr e.symm
      · exact .inl (.inr h5)
  · rcases List.mem_append.1 hy with hy | hy
    · exact h3 y hy j q (by omega) hq
    · rw [List.mem_singleton.1 hy]; exact row_lt va hr hq (by omega)
  · rcases List.mem_append.1 hy with hy | hy
    · exact h4 y hy j q hj hq
    · rw [List.mem_singleton.1 hy]; exact hb j q hj hq
  · rcases Nat.lt_or_ge j k with h6 | h6
    · have := hM q.1 ((h2 q.1).2 (.inr ⟨j, q, h6, hq, rfl⟩)); omega
    · have := hb j q h6 hq; omega
theorem minv_swap {a b : List Row} {i k : Nat} {M : List Int} (h : MInv a b i k M) : MInv b a k i M := ⟨h.1, fun y => by rw [h.2.1, or_comm], h.2.2.2, h.2.2.1⟩
theorem minv_c {a b : List Row} {i k : Nat} {M : List Int} (h : MInv a b i k M) (va : VReg a) (vb : VReg b) {q : Row} (hq : b[k]? = some q) (hlt : ∀ r, a[i]? = some r → q.1 < r.1) :
    MInv a b i (k + 1) (M ++ [q.1]) ∧ rwAt a q.1 = [] ∧ rwAt b q.1 = q.2 := by
  obtain ⟨h1, h2, h3⟩ := minv_a (minv_swap h) vb va hq hlt
  exact ⟨minv_swap h1, h3, h2⟩
theorem minv_b {a b : List Row} {i k : Nat} {M : List Int} (h : MInv a b i k M) (va : VReg a) (vb : VReg b) {r q : Row} (hr : a[i]? = some r) (hq : b[k]? = some q) (he : r.1 = q.1) :
    MInv a b (i + 1) (k + 1) (M ++ [r.1]) ∧ rwAt a r.1 = r.2 ∧ rwAt b r.1 = q.2 := by
  obtain ⟨h1, h2, h3, h4⟩ := h
  have hM : ∀ x ∈ M, x < r.1 := fun x hx => h3 x hx i r (Nat.le_refl _) hr
  refine ⟨⟨asc_snoc h1 hM, fun y => ?_, fun y hy j s hj hs => ?_, fun y hy j s hj hs => ?_⟩, rwAt_of va hr, by rw [he]; exact rwAt_of vb hq⟩
  · rw [List.mem_append, h2, List.mem_singleton]
    constructor
    · rintro ((⟨j, s, hj, hs, e⟩ | ⟨j, s, hj, hs, e⟩) | h5)
      · exact .inl ⟨j, s, by omega, hs, e⟩
      · exact .inr ⟨j, s, by omega, hs, e⟩
      · exact .inl ⟨i, r, by omega, hr, h5.symm⟩
    · rintro (⟨j, s, hj, hs, e⟩ | ⟨j, s, hj, hs, e⟩)
      · rcases Nat.lt_or_ge j i with h6 | h6
        · exact .inl (.inl ⟨j, s, h6, hs, e⟩)
        · have : j = i := by omega
          subst this; rw [hr] at hs; injection hs with hs; rw [← hs] at e; exact .inr e.symm
      · rcases Nat.lt_or_ge j k with h6 | h6
        · exact .inl (.inr ⟨j, s, h6, hs, e⟩)
        · have : j = k := by omega
          subst this; rw [hq] at hs; injection hs with hs; rw [← hs] at e; exact .inr (by omega)
  · rcases List.mem_append.1 hy with hy | hy
    · exact h3 y hy j s (by omega) hs
    · rw [List.mem_singleton.1 hy]; exact row_lt va hr hs (by omega)
  · rcases List.mem_append.1 hy with hy | hy
    · exact h4 y hy j s (by omega) hs
    · rw [List.mem_singleton.1 hy, he]; exact row_lt vb hq hs (by omega)
theorem minv_end {f : Bool → Bool → Bool} (hf : f false false = false) {a b : List Row} {M : List Int} (h : MInv a b a.length b.length M) (ha : rvalid a = true) (hb : rvalid b = true) : rowsOn (fun y => Runs.choose f (rwAt a y) (rwAt b y)) M = rop f a b := by
  have h1 := rows_op hf (rvalid_iff.1 ha) (rvalid_iff.1 hb) h.1 (fun y => by
    rw [h.2.1, List.mem_append, List.mem_map, List.mem_map]
    constructor
    · rintro (⟨j, r, _, hr, e⟩ | ⟨j, r, _, hr, e⟩)
      · exact .inl ⟨r, List.mem_of_getElem? hr, e⟩
      · exact .inr ⟨r, List.mem_of_getElem? hr, e⟩
    · rintro (⟨r, hr, e⟩ | ⟨r, hr, e⟩)
      · obtain ⟨j, hj, rfl⟩ := List.getElem_of_mem hr
        exact .inl ⟨j, _, hj, List.getElem?_eq_getElem hj, e⟩
      · obtain ⟨j, hj, rfl⟩ := List.getElem_of_mem hr
        exact .inr ⟨j, _, hj, List.getElem?_eq_getElem hj, e⟩)
  exact rop_eq hf ha hb h1.1 h1.2
end Reg
end Go.Proofs.YtneelidbgigehaaGreat
/- The chapter's operation on two regions. -/
namespace Go.Proofs.YtneelidbgigehaaGreat
set_option linter.unusedSimpArgs false
set_option linter.unusedVariables false
open Go.RowKit Runs Reg
attribute [local go_sem] Kin.cell Kin.frozen Kin.lt0 Kin.lt1 Kin.lt2 Kin.lt3 run_mkf
theorem Kin.boxes4 {w : World} {c1 c2 c3 c4 : Array Value} {t1 t2 t3 t4 : TypeId} (z : Kin ((((w.alloc (.cells c1 t1)).alloc (.cells c2 t2)).alloc (.cells c3 t3)).alloc (.cells c4 t4))) :
    Blk z.1 w.heap.size t1 c1 ∧ Blk z.1 (w.heap.size + 1) t2 c2 ∧ Blk z.1 (w.heap.size + 2) t3 c3 ∧ Blk z.1 (w.heap.size + 3) t4 c4 := by
  have h := Kin.boxes3 (⟨_, Below.refl _ _⟩ : Kin (((w.alloc (.cells c1 t1)).alloc (.cells c2 t2)).alloc (.cells c3 t3)))
  have hb : Below (((w.alloc (.cells c1 t1)).alloc (.cells c2 t2)).alloc (.cells c3 t3)).heap.size (((w.alloc (.cells c1 t1)).alloc (.cells c2 t2)).alloc (.cells c3 t3)) ((((w.alloc (.cells c1 t1)).alloc (.cells c2 t2)).alloc (.cells c3 t3)).alloc (.cells c4 t4)) := Below.alloc (Below.refl _ _) (Nat.le_refl _) _
  refine ⟨(h.1.below hb).below z.2, (h.2.1.below hb).below z.2, (h.2.2.below hb).below z.2, ?_⟩
  have := Blk.new (((w.alloc (.cells c1 t1)).alloc (.cells c2 t2)).alloc (.cells c3 t3)) t4 c4
  rw [World.size_alloc, World.size_alloc, World.size_alloc] at this
  exact this.below z.2
/-- the world behind the first three of four boxes -/
theorem three_of {w z : World} {c1 c2 c3 c4 : Array Value} {t1 t2 t3 t4 : TypeId} (hz : Below ((((w.alloc (.cells c1 t1)).alloc (.cells c2 t2)).alloc (.cells c3 t3)).alloc (.cells c4 t4)).heap.size ((((w.alloc (.cells c1 t1)).alloc (.cells c2 t2)).alloc (.cells c3 t3)).alloc (.cells c4 t4)) z) :
    ∃ V : World, V.heap.size = w.heap.size + 3 ∧ Below V.heap.size V z ∧ Below w.heap.size w V ∧ Blk V w.heap.size t1 c1 ∧ Blk V (w.heap.size + 1) t2 c2 ∧ Blk V (w.heap.size + 2) t3 c3 := by
  refine ⟨((w.alloc (.cells c1 t1)).alloc (.cells c2 t2)).alloc (.cells c3 t3), by simp only [World.size_alloc], ?_, gRw, Kin.boxes3 ⟨_, Below.refl _ _⟩⟩
  exact (Below.alloc (Below.refl _ _) (Nat.le_refl _) _).trans (hz.mono (by simp only [World.size_alloc]; omega))
set_option maxRecDepth 100000 in
set_option maxHeartbeats 16000000 in
theorem operated_any (v u : Value) (a b : List Reg.Row) (n : Int) (hn : n = 0 ∨ n = 1 ∨ n = 2) (w : World) (ha : RdReg w v a) (hb : RdReg w u b) (ba : RBd a) (bb : RBd b) :
    Calls Tryz.prog 38 #[.int .i64 n, v, u] w fun e w' => (∃ r, e = .returned r ∧ RdReg w' r (rop (opf (code n)) a b)) ∧ Below w.heap.size w w' := by
  have HA := Lib.hid ha
  have HB := Lib.hid hb
  have Ba := Lib.hid ba
  have Bb := Lib.hid bb
  obtain ⟨s, rfl, ha⟩ := ha
  obtain ⟨t, rfl, hb⟩ := hb
  clear ba bb
  cases hva : rvalid a
  · clear ha hb
    go_enter Tryz.func38, Tryz.ntmps38
    go_wp2_with (go_at_call 5; (with_reducible refine (Kin.callK (W := ((((w.alloc (.cells #[s] 24)).alloc (.cells #[t] 24)).alloc (.cells #[.slice none 0 0] 24)).alloc (.cells #[.slice none 0 0] 24))) gRw (valid18_is _ a _ (HA.out.below gRw) Ba.out hva)).mono ?_); rintro e w' ⟨z, rfl, hz, rfl⟩)
    ((try simp only [Exit.inBlock, Exit.then]); refine bodyPost_ret (results_cell_row rfl _ _ _ _ _ (0, 0) _ rfl (z.boxes4.2.2.1.set_ 0 _) Tryz.underlying24 rfl (by kernel_rfl)) rfl ?_)
    exact ⟨⟨_, rfl, by rw [rop_bad (by simp [hva])]; exact RdReg.nil⟩, gRw⟩
  · cases hvb : rvalid b
    · clear ha hb
      go_enter Tryz.func38, Tryz.ntmps38
      go_wp2_with (first | (go_at_call 5; (with_reducible refine (Kin.callK (W := ((((w.alloc (.cells #[s] 24)).alloc (.cells #[t] 24)).alloc (.cells #[.slice none 0 0] 24)).alloc (.cells #[.slice none 0 0] 24))) gRw (valid18_is _ a _ (HA.out.below gRw) Ba.out hva)).mono ?_); rintro e w' ⟨z, rfl, hz, rfl⟩) | (go_at_call 5; (with_reducible refine (Kin.callK (W := ((((w.alloc (.cells #[s] 24)).alloc (.cells #[t] 24)).alloc (.cells #[.slice none 0 0] 24)).alloc (.cells #[.slice none 0 0] 24))) gRw (valid18_is _ b _ (HB.out.below gRw) Bb.out hvb)).mono ?_); rintro e w' ⟨z, rfl, hz, rfl⟩))
      ((try simp only [Exit.inBlock, Exit.then]); refine bodyPost_ret (results_cell_row rfl _ _ _ _ _ (0, 0) _ rfl (z.boxes4.2.2.1.set_ 0 _) Tryz.underlying24 rfl (by kernel_rfl)) rfl ?_)
      exact ⟨⟨_, rfl, by rw [rop_bad (by simp [hvb])]; exact RdReg.nil⟩, gRw⟩
    · have la := (vreg_len (rvalid_iff.1 hva)).1
      have lb := (vreg_len (rvalid_iff.1 hvb)).1
      obtain ⟨A, capA, rfl, hcapA, _⟩ := rows_open ha
      obtain ⟨B, capB, rfl, hcapB, _⟩ := rows_open hb
      have HRA := Lib.hid ha
      have HRB := Lib.hid hb
      have HVA := Lib.hid (rvalid_iff.1 hva)
      have HVB := Lib.hid (rvalid_iff.1 hvb)
      clear ha hb
      go_enter Tryz.func38, Tryz.ntmps38
      go_wp2_with (first | (go_at_call 5; (with_reducible refine (Kin.callK (W := ((((w.alloc (.cells #[.slice A a.length capA] 24)).alloc (.cells #[.slice B b.length capB] 24)).alloc (.cells #[.slice none 0 0] 24)).alloc (.cells #[.slice none 0 0] 24))) gRw (valid18_is _ a _ (HA.out.below gRw) Ba.out hva)).mono ?_); rintro e w' ⟨z, rfl, hz, rfl⟩) | (go_at_call 5; (with_reducible refine (Kin.callK (W := ((((w.alloc (.cells #[.slice A a.length capA] 24)).alloc (.cells #[.slice B b.length capB] 24)).alloc (.cells #[.slice none 0 0] 24)).alloc (.cells #[.slice none 0 0] 24))) gRw (valid18_is _ b _ (HB.out.below gRw) Bb.out hvb)).mono ?_); rintro e w' ⟨z, rfl, hz, rfl⟩))
      have b4 := Lib.hid z.boxes4.2.2.2
      obtain ⟨V, hVs, hVz, hVw, v1, v2, v3⟩ := three_of z.2
      have HV1 := Lib.hid v1
      have HV2 := Lib.hid v2
      have HV3 := Lib.hid v3
      have HVw := Lib.hid hVw
      have HVs := Lib.hid hVs
      have HRA := Lib.hid (HRA.out.below hVw)
      have HRB := Lib.hid (HRB.out.below hVw)
      have HVz := Lib.hid hVz
      clear v1 v2 v3 hVw hVs hVz
      obtain ⟨g, hg⟩ : ∃ g : Int → List Run, g = fun y => Runs.choose (opf (code n)) (rwAt a y) (rwAt b y) := ⟨_, rfl⟩
      have HG := Lib.hid (fun x => congrFun hg x)
      have HGF := Lib.hid hg
      clear hg
      go_loopw [8, 9] (fun iv kv wr => ∃ (i k : Nat) (M : List Int) (S : Value), i ≤ a.length ∧ k ≤ b.length ∧ iv = .int .i64 i ∧ kv = .int .i64 k ∧ M.length ≤ i + k ∧ Hid (MInv a b i k M) ∧ Hid (OwnRows V.heap.size wr S (rowsOn g M)) ∧ Hid (Blk wr (w.heap.size + 3) 24 #[S]) ∧ Hid (Below V.heap.size V wr)) (fun iv kv _ => (a.length - (intOf iv).toNat) + (b.length - (intOf kv).toNat))
      case atStart => exact ⟨0, 0, [], _, Nat.zero_le _, Nat.zero_le _, rfl, rfl, Nat.zero_le _, Lib.hid (minv_start a b), Lib.hid OwnN.nil, b4, HVz⟩
      case round =>
        obtain ⟨i, k, M, S, hi, hk, rfl, rfl, hml, HM, HO, HP4, hyB⟩ := hrel
        obtain ⟨y, rfl⟩ : ∃ y : Kin V, y.1 = wr := ⟨⟨wr, hyB.out⟩, rfl⟩
        clear hyB b4
        obtain ⟨hs, hown, hnest, hap⟩ := HO.out
        obtain ⟨AS, nS, cS, rfl⟩ := own_slice hown
        have HOW := Lib.hid hown
        have HNE := Lib.hid hnest
        have HAP := Lib.hid hap
        have hhl : hs.length ≤ 16384 := by have h1 := hnest.1; have h2 := rowsOn_len g M; omega
        have p0 : y.1.cell? ⟨w.heap.size + 3, 0, none⟩ = some (.slice AS nS cS) := HP4.out.cell 0
        have pl := HP4.out.lt
        have hA := Lib.hid (rows_op (HRA.out.below y.2))
        have hB := Lib.hid (rows_op (HRB.out.below y.2))
        have c1 : y.1.cell? ⟨w.heap.size, 0, none⟩ = some (.slice A a.length capA) := (HV1.out.below y.2).cell 0
        have c2 : y.1.cell? ⟨w.heap.size + 1, 0, none⟩ = some (.slice B b.length capB) := (HV2.out.below y.2).cell 0
        have c3 : y.1.cell? ⟨w.heap.size + 2, 0, none⟩ = some (.slice none 0 0) := (HV3.out.below y.2).cell 0
        have f3 : y.1.frozen? ⟨w.heap.size + 2, 0, none⟩ = false := (HV3.out.below y.2).frozen 0
        have hw1 : IntKind.i64.wrap ((i : Int) + 1) = (i : Int) + 1 := IntWalk.i64_in _ (by omega)
        have hw2 : IntKind.i64.wrap ((k : Int) + 1) = (k : Int) + 1 := IntWalk.i64_in _ (by omega)
        have hVp : V.heap.size ≤ w.heap.size + 3 := by have := HVs.out; omega
        have l1 : w.heap.size < y.1.heap.size := by omega
        have l2 : w.heap.size + 1 < y.1.heap.size := by omega
        have l3 : w.heap.size + 2 < y.1.heap.size := by omega
        clear hown hnest hap
        by_cases hlt : i < a.length
        · obtain ⟨⟨YA, PA⟩, hr⟩ : ∃ el_, a[i]? = some el_ := ⟨_, List.getElem?_eq_getElem hlt⟩
          obtain ⟨bA, offA, rfl, hbA, hcA⟩ := hA.out i _ hr
          obtain ⟨SA, cA, r_0, r_1, hcA2, hrA⟩ := hcA i _ hr
          simp only at r_0 r_1 hcA2 hrA
          have Hr := Lib.hid hr
          have HRPA := Lib.hid hrA
          clear hr hcA hrA
          by_cases hlk : k < b.length
          · obtain ⟨⟨YB, QB⟩, hq⟩ : ∃ el_, b[k]? = some el_ := ⟨_, List.getElem?_eq_getElem hlk⟩
            obtain ⟨bB, offB, rfl, hbB, hcB⟩ := hB.out k _ hq
            obtain ⟨SB, cB, q_0, q_1, hcB2, hrB⟩ := hcB k _ hq
            simp only at q_0 q_1 hcB2 hrB
            have Hq := Lib.hid hq
            have HRQB := Lib.hid hrB
            clear hq hcB hrB
            rcases Int.lt_trichotomy YA YB with hc | hc | hc
            · have hkb : ((k : Int) == (b.length : Int)) = false := by simp; omega
              have hle : YA ≤ YB := by omega
              have hnb : (YB == YA) = false := by simp; omega
              have hstep : MInv a b (i + 1) k (M ++ [YA]) ∧ rwAt a YA = PA ∧ rwAt b YA = [] := minv_a HM.out HVA.out HVB.out Hr.out (fun q hq => by rw [Hq.out] at hq; injection hq with hq; subst hq; exact hc)
              have HSP := Lib.hid (show SepIn PA from by rw [← hstep.2.1]; exact rwAt_in HVA.out _)
              have HSQ := Lib.hid (show SepIn ([] : List Run) from by rw [← hstep.2.2]; exact rwAt_in HVB.out _)
              have HCh := Lib.hid (show Runs.choose (opf (code n)) PA ([] : List Run) = g YA from by rw [HG.out, hstep.2.1, hstep.2.2])
              have HM2 := Lib.hid hstep.1
              have hgl : (g YA).length ≤ 8192 := by rw [← HCh.out]; exact sepIn_len (choose_in (opf_ff (code n)) HSP.out HSQ.out)
              clear hstep
              go_wp2
              ((refine wp_region_kinK (W := (Kin.wd y)) (by kernel_rfl) (by kernel_rfl) gRw ?_); (repeat' (first | go_big_quiet_step (fail) | ((refine wpQuiet_guard rfl rfl rfl rfl (fun hg => ?_) (fun hg => ?_)) <;> (fail_if_success (first | guard_hyp hg : true = true | guard_hyp hg : false = false)) <;> (try simp only [decide_eq_true_eq, decide_eq_false_iff_not] at hg) <;> simp only [Act.put, List.setIfInBounds_toArray, List.set_cons_zero, List.set_cons_succ]))); all_goals ((with_reducible refine wpQuiet_nil ?_); intro zq hz))
              go_wp2_with (first
                | (go_at_call 77; (with_reducible refine (Kin.callK (W := (Kin.wd y)) gRw (combined_any _ _ PA ([] : List Run) n hn _ (HRPA.out.below gRw) (Rd.nil) HSP.out HSQ.out)).mono ?_); rintro e w' ⟨z1, ⟨ul, rfl, hu⟩, hz1, rfl⟩; (rw [HCh.out] at hu; (obtain ⟨AL, capL, rfl, hcapL, _⟩ := (Rd.own encRun_len hu.own).open_); have HRC := Lib.hid (Rd.own encRun_len hu.own); have HFR := Lib.hid (own_fresh hu.own (v2 := .slice AS nS cS) (fun q e => Nat.lt_of_lt_of_le (HOW.out.lt q e).2 zq.2.size)); clear hu))
                | (at_builtin; refine wpList_app _ rfl _ _ 22 rfl encRow_len (by decide) oneRow V.heap.size 44 (.agg #[.int .i64 0, .slice none 0 0]) 32 infoRow rfl Tryz.underlying22 _ _ _ _ rfl ((own_below HOW.out z1.2).alloc _) _ _ _ rfl (rd_one _ encRow_len _ (hd YA AL (g YA).length capL) _ rfl) ?c1 (by decide) ?c2 ?_; (case c1 => (first | (simp only [List.length_append, List.length_cons, List.length_nil]; omega) | omega | (simp; omega))); (case c2 => exact lEw); intro v' w1 hown' hg hbel hat'; ((obtain ⟨AV, nV, cV, rfl⟩ := own_slice hown'); have hPn : Blk (z1.1.alloc (.cells #[.int .i64 YA, .slice AL (g YA).length capL] 44)) (w.heap.size + 3) 24 #[.slice AS nS cS] := (HP4.out.below z1.2).below (Below.alloc (Below.refl _ _) (Nat.le_refl _) _); have HP1 := Lib.hid (hPn.grown hg (Ne.symm (own_ne ((own_below HOW.out z1.2).alloc _) hPn (by decide)))); have p1 : w1.cell? ⟨w.heap.size + 3, 0, none⟩ = some (.slice AS nS cS) := HP1.out.cell 0; have pf1 : w1.frozen? ⟨w.heap.size + 3, 0, none⟩ = false := HP1.out.frozen 0; have pl1 := HP1.out.lt; have HPU := Lib.hid (OwnRows.push ((own_below HOW.out z1.2).alloc _) (HNE.out.below gRw) HAP.out hown' hg hat' (HRC.out.below gRw) (HFR.out.imp List.eq_nil_of_length_eq_zero id) hPn); have HBE := Lib.hid hbel; clear hown' hg hbel hat')))
              · have hne : (g YA).isEmpty = false := by
                  rw [List.isEmpty_eq_false_iff]; intro e; have : (g YA).length = 0 := (by rw [e]; rfl); omega
                have hbV : Below V.heap.size V (z1.1.alloc (.cells #[.int .i64 YA, .slice AL (g YA).length capL] 44)) := Below.alloc (y.2.trans (z1.2.mono y.2.size)) lEw _
                go_roundw
                case rel => exact ⟨i + 1, k, M ++ [YA], _, by omega, by omega, by first | rfl | go_num, by first | rfl | go_num, by simp; omega, HM2, Lib.hid (by rw [rowsOn_snoc, hne]; exact HPU.out.1), Lib.hid HPU.out.2, Lib.hid (Below.setCell (hbV.trans HBE.out) hVp _)⟩
                case measure => simp [intOf]; omega
              · have hne : (g YA).isEmpty = true := by
                  rw [List.isEmpty_iff]; rename_i h; exact List.eq_nil_of_length_eq_zero (by omega)
                go_roundw
                case rel => exact ⟨i + 1, k, M ++ [YA], _, by omega, by omega, by first | rfl | go_num, by first | rfl | go_num, by simp; omega, HM2, Lib.hid (by rw [rowsOn_snoc, hne]; simpa using HO.out.below z1.2), Lib.hid (HP4.out.below z1.2), Lib.hid (y.2.trans (z1.2.mono y.2.size))⟩
                case measure => simp [intOf]; omega
            · subst hc
              have hkb : ((k : Int) == (b.length : Int)) = false := by simp; omega
              have hle : YA ≤ YA := Int.le_refl _
              have hstep : MInv a b (i + 1) (k + 1) (M ++ [YA]) ∧ rwAt a YA = PA ∧ rwAt b YA = QB := minv_b HM.out HVA.out HVB.out Hr.out Hq.out rfl
              have HSP := Lib.hid (show SepIn PA from by rw [← hstep.2.1]; exact rwAt_in HVA.out _)
              have HSQ := Lib.hid (show SepIn QB from by rw [← hstep.2.2]; exact rwAt_in HVB.out _)
              have HCh := Lib.hid (show Runs.choose (opf (code n)) PA QB = g YA from by rw [HG.out, hstep.2.1, hstep.2.2])
              have HM2 := Lib.hid hstep.1
              have hgl : (g YA).length ≤ 8192 := by rw [← HCh.out]; exact sepIn_len (choose_in (opf_ff (code n)) HSP.out HSQ.out)
              clear hstep
              go_wp2
              ((refine wp_region_kinK (W := (Kin.wd y)) (by kernel_rfl) (by kernel_rfl) gRw ?_); (repeat' (first | go_big_quiet_step (fail) | ((refine wpQuiet_guard rfl rfl rfl rfl (fun hg => ?_) (fun hg => ?_)) <;> (fail_if_success (first | guard_hyp hg : true = true | guard_hyp hg : false = false)) <;> (try simp only [decide_eq_true_eq, decide_eq_false_iff_not] at hg) <;> simp only [Act.put, List.setIfInBounds_toArray, List.set_cons_zero, List.set_cons_succ]))); all_goals ((with_reducible refine wpQuiet_nil ?_); intro zq hz))
              go_wp2_with (first
                | (go_at_call 77; (with_reducible refine (Kin.callK (W := (Kin.wd y)) gRw (combined_any _ _ PA QB n hn _ (HRPA.out.below gRw) (HRQB.out.below gRw) HSP.out HSQ.out)).mono ?_); rintro e w' ⟨z1, ⟨ul, rfl, hu⟩, hz1, rfl⟩; (rw [HCh.out] at hu; (obtain ⟨AL, capL, rfl, hcapL, _⟩ := (Rd.own encRun_len hu.own).open_); have HRC := Lib.hid (Rd.own encRun_len hu.own); have HFR := Lib.hid (own_fresh hu.own (v2 := .slice AS nS cS) (fun q e => Nat.lt_of_lt_of_le (HOW.out.lt q e).2 zq.2.size)); clear hu))
                | (at_builtin; refine wpList_app _ rfl _ _ 22 rfl encRow_len (by decide) oneRow V.heap.size 44 (.agg #[.int .i64 0, .slice none 0 0]) 32 infoRow rfl Tryz.underlying22 _ _ _ _ rfl ((own_below HOW.out z1.2).alloc _) _ _ _ rfl (rd_one _ encRow_len _ (hd YA AL (g YA).length capL) _ rfl) ?c1 (by decide) ?c2 ?_; (case c1 => (first | (simp only [List.length_append, List.length_cons, List.length_nil]; omega) | omega | (simp; omega))); (case c2 => exact lEw); intro v' w1 hown' hg hbel hat'; ((obtain ⟨AV, nV, cV, rfl⟩ := own_slice hown'); have hPn : Blk (z1.1.alloc (.cells #[.int .i64 YA, .slice AL (g YA).length capL] 44)) (w.heap.size + 3) 24 #[.slice AS nS cS] := (HP4.out.below z1.2).below (Below.alloc (Below.refl _ _) (Nat.le_refl _) _); have HP1 := Lib.hid (hPn.grown hg (Ne.symm (own_ne ((own_below HOW.out z1.2).alloc _) hPn (by decide)))); have p1 : w1.cell? ⟨w.heap.size + 3, 0, none⟩ = some (.slice AS nS cS) := HP1.out.cell 0; have pf1 : w1.frozen? ⟨w.heap.size + 3, 0, none⟩ = false := HP1.out.frozen 0; have pl1 := HP1.out.lt; have HPU := Lib.hid (OwnRows.push ((own_below HOW.out z1.2).alloc _) (HNE.out.below gRw) HAP.out hown' hg hat' (HRC.out.below gRw) (HFR.out.imp List.eq_nil_of_length_eq_zero id) hPn); have HBE := Lib.hid hbel; clear hown' hg hbel hat')))
              · have hne : (g YA).isEmpty = false := by
                  rw [List.isEmpty_eq_false_iff]; intro e; have : (g YA).length = 0 := (by rw [e]; rfl); omega
                have hbV : Below V.heap.size V (z1.1.alloc (.cells #[.int .i64 YA, .slice AL (g YA).length capL] 44)) := Below.alloc (y.2.trans (z1.2.mono y.2.size)) lEw _
                go_roundw
                case rel => exact ⟨i + 1, k + 1, M ++ [YA], _, by omega, by omega, by first | rfl | go_num, by first | rfl | go_num, by simp; omega, HM2, Lib.hid (by rw [rowsOn_snoc, hne]; exact HPU.out.1), Lib.hid HPU.out.2, Lib.hid (Below.setCell (hbV.trans HBE.out) hVp _)⟩
                case measure => simp [intOf]; omega
              · have hne : (g YA).isEmpty = true := by
                  rw [List.isEmpty_iff]; rename_i h; exact List.eq_nil_of_length_eq_zero (by omega)
                go_roundw
                case rel => exact ⟨i + 1, k + 1, M ++ [YA], _, by omega, by omega, by first | rfl | go_num, by first | rfl | go_num, by simp; omega, HM2, Lib.hid (by rw [rowsOn_snoc, hne]; simpa using HO.out.below z1.2), Lib.hid (HP4.out.below z1.2), Lib.hid (y.2.trans (z1.2.mono y.2.size))⟩
                case measure => simp [intOf]; omega
            · have hkb : ((k : Int) == (b.length : Int)) = false := by simp; omega
              have hle : ¬ YA ≤ YB := by omega
              have hnb : (YA == YB) = false := by simp; omega
              have hstep : MInv a b i (k + 1) (M ++ [YB]) ∧ rwAt a YB = [] ∧ rwAt b YB = QB := minv_c HM.out HVA.out HVB.out Hq.out (fun q hq => by rw [Hr.out] at hq; injection hq with hq; subst hq; exact hc)
              have HSP := Lib.hid (show SepIn ([] : List Run) from by rw [← hstep.2.1]; exact rwAt_in HVA.out _)
              have HSQ := Lib.hid (show SepIn QB from by rw [← hstep.2.2]; exact rwAt_in HVB.out _)
              have HCh := Lib.hid (show Runs.choose (opf (code n)) ([] : List Run) QB = g YB from by rw [HG.out, hstep.2.1, hstep.2.2])
              have HM2 := Lib.hid hstep.1
              have hgl : (g YB).length ≤ 8192 := by rw [← HCh.out]; exact sepIn_len (choose_in (opf_ff (code n)) HSP.out HSQ.out)
              clear hstep
              go_wp2
              ((refine wp_region_kinK (W := (Kin.wd y)) (by kernel_rfl) (by kernel_rfl) gRw ?_); (repeat' (first | go_big_quiet_step (fail) | ((refine wpQuiet_guard rfl rfl rfl rfl (fun hg => ?_) (fun hg => ?_)) <;> (fail_if_success (first | guard_hyp hg : true = true | guard_hyp hg : false = false)) <;> (try simp only [decide_eq_true_eq, decide_eq_false_iff_not] at hg) <;> simp only [Act.put, List.setIfInBounds_toArray, List.set_cons_zero, List.set_cons_succ]))); all_goals ((with_reducible refine wpQuiet_nil ?_); intro zq hz))
              go_wp2_with (first
                | (go_at_call 77; (with_reducible refine (Kin.callK (W := (Kin.wd y)) gRw (combined_any _ _ ([] : List Run) QB n hn _ (Rd.nil) (HRQB.out.below gRw) HSP.out HSQ.out)).mono ?_); rintro e w' ⟨z1, ⟨ul, rfl, hu⟩, hz1, rfl⟩; (rw [HCh.out] at hu; (obtain ⟨AL, capL, rfl, hcapL, _⟩ := (Rd.own encRun_len hu.own).open_); have HRC := Lib.hid (Rd.own encRun_len hu.own); have HFR := Lib.hid (own_fresh hu.own (v2 := .slice AS nS cS) (fun q e => Nat.lt_of_lt_of_le (HOW.out.lt q e).2 zq.2.size)); clear hu))
                | (at_builtin; refine wpList_app _ rfl _ _ 22 rfl encRow_len (by decide) oneRow V.heap.size 44 (.agg #[.int .i64 0, .slice none 0 0]) 32 infoRow rfl Tryz.underlying22 _ _ _ _ rfl ((own_below HOW.out z1.2).alloc _) _ _ _ rfl (rd_one _ encRow_len _ (hd YB AL (g YB).length capL) _ rfl) ?c1 (by decide) ?c2 ?_; (case c1 => (first | (simp only [List.length_append, List.length_cons, List.length_nil]; omega) | omega | (simp; omega))); (case c2 => exact lEw); intro v' w1 hown' hg hbel hat'; ((obtain ⟨AV, nV, cV, rfl⟩ := own_slice hown'); have hPn : Blk (z1.1.alloc (.cells #[.int .i64 YB, .slice AL (g YB).length capL] 44)) (w.heap.size + 3) 24 #[.slice AS nS cS] := (HP4.out.below z1.2).below (Below.alloc (Below.refl _ _) (Nat.le_refl _) _); have HP1 := Lib.hid (hPn.grown hg (Ne.symm (own_ne ((own_below HOW.out z1.2).alloc _) hPn (by decide)))); have p1 : w1.cell? ⟨w.heap.size + 3, 0, none⟩ = some (.slice AS nS cS) := HP1.out.cell 0; have pf1 : w1.frozen? ⟨w.heap.size + 3, 0, none⟩ = false := HP1.out.frozen 0; have pl1 := HP1.out.lt; have HPU := Lib.hid (OwnRows.push ((own_below HOW.out z1.2).alloc _) (HNE.out.below gRw) HAP.out hown' hg hat' (HRC.out.below gRw) (HFR.out.imp List.eq_nil_of_length_eq_zero id) hPn); have HBE := Lib.hid hbel; clear hown' hg hbel hat')))
              · have hne : (g YB).isEmpty = false := by
                  rw [List.isEmpty_eq_false_iff]; intro e; have : (g YB).length = 0 := (by rw [e]; rfl); omega
                have hbV : Below V.heap.size V (z1.1.alloc (.cells #[.int .i64 YB, .slice AL (g YB).length capL] 44)) := Below.alloc (y.2.trans (z1.2.mono y.2.size)) lEw _
                go_roundw
                case rel => exact ⟨i, k + 1, M ++ [YB], _, by omega, by omega, by first | rfl | go_num, by first | rfl | go_num, by simp; omega, HM2, Lib.hid (by rw [rowsOn_snoc, hne]; exact HPU.out.1), Lib.hid HPU.out.2, Lib.hid (Below.setCell (hbV.trans HBE.out) hVp _)⟩
                case measure => simp [intOf]; omega
              · have hne : (g YB).isEmpty = true := by
                  rw [List.isEmpty_iff]; rename_i h; exact List.eq_nil_of_length_eq_zero (by omega)
                go_roundw
                case rel => exact ⟨i, k + 1, M ++ [YB], _, by omega, by omega, by first | rfl | go_num, by first | rfl | go_num, by simp; omega, HM2, Lib.hid (by rw [rowsOn_snoc, hne]; simpa using HO.out.below z1.2), Lib.hid (HP4.out.below z1.2), Lib.hid (y.2.trans (z1.2.mono y.2.size))⟩
                case measure => simp [intOf]; omega
          · have hkb : ((k : Int) == (b.length : Int)) = true := by simp; omega
            have hstep : MInv a b (i + 1) k (M ++ [YA]) ∧ rwAt a YA = PA ∧ rwAt b YA = [] := minv_a HM.out HVA.out HVB.out Hr.out (fun q hq => absurd (List.getElem?_eq_some_iff.1 hq).1 hlk)
            have HSP := Lib.hid (show SepIn PA from by rw [← hstep.2.1]; exact rwAt_in HVA.out _)
            have HSQ := Lib.hid (show SepIn ([] : List Run) from by rw [← hstep.2.2]; exact rwAt_in HVB.out _)
            have HCh := Lib.hid (show Runs.choose (opf (code n)) PA ([] : List Run) = g YA from by rw [HG.out, hstep.2.1, hstep.2.2])
            have HM2 := Lib.hid hstep.1
            have hgl : (g YA).length ≤ 8192 := by rw [← HCh.out]; exact sepIn_len (choose_in (opf_ff (code n)) HSP.out HSQ.out)
            clear hstep
            go_wp2
            ((refine wp_region_kinK (W := (Kin.wd y)) (by kernel_rfl) (by kernel_rfl) gRw ?_); (repeat' (first | go_big_quiet_step (fail) | ((refine wpQuiet_guard rfl rfl rfl rfl (fun hg => ?_) (fun hg => ?_)) <;> (fail_if_success (first | guard_hyp hg : true = true | guard_hyp hg : false = false)) <;> (try simp only [decide_eq_true_eq, decide_eq_false_iff_not] at hg) <;> simp only [Act.put, List.setIfInBounds_toArray, List.set_cons_zero, List.set_cons_succ]))); all_goals ((with_reducible refine wpQuiet_nil ?_); intro zq hz))
            go_wp2_with (first
              | (go_at_call 77; (with_reducible refine (Kin.callK (W := (Kin.wd y)) gRw (combined_any _ _ PA ([] : List Run) n hn _ (HRPA.out.below gRw) (Rd.nil) HSP.out HSQ.out)).mono ?_); rintro e w' ⟨z1, ⟨ul, rfl, hu⟩, hz1, rfl⟩; (rw [HCh.out] at hu; (obtain ⟨AL, capL, rfl, hcapL, _⟩ := (Rd.own encRun_len hu.own).open_); have HRC := Lib.hid (Rd.own encRun_len hu.own); have HFR := Lib.hid (own_fresh hu.own (v2 := .slice AS nS cS) (fun q e => Nat.lt_of_lt_of_le (HOW.out.lt q e).2 zq.2.size)); clear hu))
              | (at_builtin; refine wpList_app _ rfl _ _ 22 rfl encRow_len (by decide) oneRow V.heap.size 44 (.agg #[.int .i64 0, .slice none 0 0]) 32 infoRow rfl Tryz.underlying22 _ _ _ _ rfl ((own_below HOW.out z1.2).alloc _) _ _ _ rfl (rd_one _ encRow_len _ (hd YA AL (g YA).length capL) _ rfl) ?c1 (by decide) ?c2 ?_; (case c1 => (first | (simp only [List.length_append, List.length_cons, List.length_nil]; omega) | omega | (simp; omega))); (case c2 => exact lEw); intro v' w1 hown' hg hbel hat'; ((obtain ⟨AV, nV, cV, rfl⟩ := own_slice hown'); have hPn : Blk (z1.1.alloc (.cells #[.int .i64 YA, .slice AL (g YA).length capL] 44)) (w.heap.size + 3) 24 #[.slice AS nS cS] := (HP4.out.below z1.2).below (Below.alloc (Below.refl _ _) (Nat.le_refl _) _); have HP1 := Lib.hid (hPn.grown hg (Ne.symm (own_ne ((own_below HOW.out z1.2).alloc _) hPn (by decide)))); have p1 : w1.cell? ⟨w.heap.size + 3, 0, none⟩ = some (.slice AS nS cS) := HP1.out.cell 0; have pf1 : w1.frozen? ⟨w.heap.size + 3, 0, none⟩ = false := HP1.out.frozen 0; have pl1 := HP1.out.lt; have HPU := Lib.hid (OwnRows.push ((own_below HOW.out z1.2).alloc _) (HNE.out.below gRw) HAP.out hown' hg hat' (HRC.out.below gRw) (HFR.out.imp List.eq_nil_of_length_eq_zero id) hPn); have HBE := Lib.hid hbel; clear hown' hg hbel hat')))
            · have hne : (g YA).isEmpty = false := by
                rw [List.isEmpty_eq_false_iff]; intro e; have : (g YA).length = 0 := (by rw [e]; rfl); omega
              have hbV : Below V.heap.size V (z1.1.alloc (.cells #[.int .i64 YA, .slice AL (g YA).length capL] 44)) := Below.alloc (y.2.trans (z1.2.mono y.2.size)) lEw _
              go_roundw
              case rel => exact ⟨i + 1, k, M ++ [YA], _, by omega, by omega, by first | rfl | go_num, by first | rfl | go_num, by simp; omega, HM2, Lib.hid (by rw [rowsOn_snoc, hne]; exact HPU.out.1), Lib.hid HPU.out.2, Lib.hid (Below.setCell (hbV.trans HBE.out) hVp _)⟩
              case measure => simp [intOf]; omega
            · have hne : (g YA).isEmpty = true := by
                rw [List.isEmpty_iff]; rename_i h; exact List.eq_nil_of_length_eq_zero (by omega)
              go_roundw
              case rel => exact ⟨i + 1, k, M ++ [YA], _, by omega, by omega, by first | rfl | go_num, by first | rfl | go_num, by simp; omega, HM2, Lib.hid (by rw [rowsOn_snoc, hne]; simpa using HO.out.below z1.2), Lib.hid (HP4.out.below z1.2), Lib.hid (y.2.trans (z1.2.mono y.2.size))⟩
              case measure => simp [intOf]; omega
        · by_cases hlk : k < b.length
          · obtain ⟨⟨YB, QB⟩, hq⟩ : ∃ el_, b[k]? = some el_ := ⟨_, List.getElem?_eq_getElem hlk⟩
            obtain ⟨bB, offB, rfl, hbB, hcB⟩ := hB.out k _ hq
            obtain ⟨SB, cB, q_0, q_1, hcB2, hrB⟩ := hcB k _ hq
            simp only at q_0 q_1 hcB2 hrB
            have Hq := Lib.hid hq
            have HRQB := Lib.hid hrB
            clear hq hcB hrB
            have hkb : ((k : Int) == (b.length : Int)) = false := by simp; omega
            have hstep : MInv a b i (k + 1) (M ++ [YB]) ∧ rwAt a YB = [] ∧ rwAt b YB = QB := minv_c HM.out HVA.out HVB.out Hq.out (fun q hq => absurd (List.getElem?_eq_some_iff.1 hq).1 hlt)
            have HSP := Lib.hid (show SepIn ([] : List Run) from by rw [← hstep.2.1]; exact rwAt_in HVA.out _)
            have HSQ := Lib.hid (show SepIn QB from by rw [← hstep.2.2]; exact rwAt_in HVB.out _)
            have HCh := Lib.hid (show Runs.choose (opf (code n)) ([] : List Run) QB = g YB from by rw [HG.out, hstep.2.1, hstep.2.2])
            have HM2 := Lib.hid hstep.1
            have hgl : (g YB).length ≤ 8192 := by rw [← HCh.out]; exact sepIn_len (choose_in (opf_ff (code n)) HSP.out HSQ.out)
            clear hstep
            go_wp2
            ((refine wp_region_kinK (W := (Kin.wd y)) (by kernel_rfl) (by kernel_rfl) gRw ?_); (repeat' (first | go_big_quiet_step (fail) | ((refine wpQuiet_guard rfl rfl rfl rfl (fun hg => ?_) (fun hg => ?_)) <;> (fail_if_success (first | guard_hyp hg : true = true | guard_hyp hg : false = false)) <;> (try simp only [decide_eq_true_eq, decide_eq_false_iff_not] at hg) <;> simp only [Act.put, List.setIfInBounds_toArray, List.set_cons_zero, List.set_cons_succ]))); all_goals ((with_reducible refine wpQuiet_nil ?_); intro zq hz))
            go_wp2_with (first
              | (go_at_call 77; (with_reducible refine (Kin.callK (W := (Kin.wd y)) gRw (combined_any _ _ ([] : List Run) QB n hn _ (Rd.nil) (HRQB.out.below gRw) HSP.out HSQ.out)).mono ?_); rintro e w' ⟨z1, ⟨ul, rfl, hu⟩, hz1, rfl⟩; (rw [HCh.out] at hu; (obtain ⟨AL, capL, rfl, hcapL, _⟩ := (Rd.own encRun_len hu.own).open_); have HRC := Lib.hid (Rd.own encRun_len hu.own); have HFR := Lib.hid (own_fresh hu.own (v2 := .slice AS nS cS) (fun q e => Nat.lt_of_lt_of_le (HOW.out.lt q e).2 zq.2.size)); clear hu))
              | (at_builtin; refine wpList_app _ rfl _ _ 22 rfl encRow_len (by decide) oneRow V.heap.size 44 (.agg #[.int .i64 0, .slice none 0 0]) 32 infoRow rfl Tryz.underlying22 _ _ _ _ rfl ((own_below HOW.out z1.2).alloc _) _ _ _ rfl (rd_one _ encRow_len _ (hd YB AL (g YB).length capL) _ rfl) ?c1 (by decide) ?c2 ?_; (case c1 => (first | (simp only [List.length_append, List.length_cons, List.length_nil]; omega) | omega | (simp; omega))); (case c2 => exact lEw); intro v' w1 hown' hg hbel hat'; ((obtain ⟨AV, nV, cV, rfl⟩ := own_slice hown'); have hPn : Blk (z1.1.alloc (.cells #[.int .i64 YB, .slice AL (g YB).length capL] 44)) (w.heap.size + 3) 24 #[.slice AS nS cS] := (HP4.out.below z1.2).below (Below.alloc (Below.refl _ _) (Nat.le_refl _) _); have HP1 := Lib.hid (hPn.grown hg (Ne.symm (own_ne ((own_below HOW.out z1.2).alloc _) hPn (by decide)))); have p1 : w1.cell? ⟨w.heap.size + 3, 0, none⟩ = some (.slice AS nS cS) := HP1.out.cell 0; have pf1 : w1.frozen? ⟨w.heap.size + 3, 0, none⟩ = false := HP1.out.frozen 0; have pl1 := HP1.out.lt; have HPU := Lib.hid (OwnRows.push ((own_below HOW.out z1.2).alloc _) (HNE.out.below gRw) HAP.out hown' hg hat' (HRC.out.below gRw) (HFR.out.imp List.eq_nil_of_length_eq_zero id) hPn); have HBE := Lib.hid hbel; clear hown' hg hbel hat')))
            · have hne : (g YB).isEmpty = false := by
                rw [List.isEmpty_eq_false_iff]; intro e; have : (g YB).length = 0 := (by rw [e]; rfl); omega
              have hbV : Below V.heap.size V (z1.1.alloc (.cells #[.int .i64 YB, .slice AL (g YB).length capL] 44)) := Below.alloc (y.2.trans (z1.2.mono y.2.size)) lEw _
              go_roundw
              case rel => exact ⟨i, k + 1, M ++ [YB], _, by omega, by omega, by first | rfl | go_num, by first | rfl | go_num, by simp; omega, HM2, Lib.hid (by rw [rowsOn_snoc, hne]; exact HPU.out.1), Lib.hid HPU.out.2, Lib.hid (Below.setCell (hbV.trans HBE.out) hVp _)⟩
              case measure => simp [intOf]; omega
            · have hne : (g YB).isEmpty = true := by
                rw [List.isEmpty_iff]; rename_i h; exact List.eq_nil_of_length_eq_zero (by omega)
              go_roundw
              case rel => exact ⟨i, k + 1, M ++ [YB], _, by omega, by omega, by first | rfl | go_num, by first | rfl | go_num, by simp; omega, HM2, Lib.hid (by rw [rowsOn_snoc, hne]; simpa using HO.out.below z1.2), Lib.hid (HP4.out.below z1.2), Lib.hid (y.2.trans (z1.2.mono y.2.size))⟩
              case measure => simp [intOf]; omega
          · go_wp2
            ((try simp only [Exit.inBlock, Exit.then]); refine bodyPost_ret (results_cell_row rfl _ _ _ _ _ (0, 0) _ rfl ((HV3.out.below y.2).set_ 0 _) Tryz.underlying24 rfl (by kernel_rfl)) rfl ?_)
            refine ⟨⟨_, rfl, ?_⟩, Below.setCell (HVw.out.trans (y.2.mono HVw.out.size)) (Nat.le_add_right _ 2) _⟩
            have e1 : i = a.length := by omega
            have e2 : k = b.length := by omega
            have h1 := HM.out
            rw [e1, e2] at h1
            rw [← minv_end (opf_ff (code n)) h1 hva hvb, ← HGF.out]
            exact (HO.out.set_ (i := 0) (u := .slice AS nS cS) (HV3.out.below y.2) (by decide)).reg
end Go.Proofs.YtneelidbgigehaaGreat
/- Union, Intersect and Subtract of the chapter on regions. -/

namespace Go.Proofs.YtneelidbgigehaaGreat
set_option linter.unusedSimpArgs false
set_option linter.unusedVariables false
open Go.RowKit Runs Reg
attribute [local go_sem] Kin.cell Kin.frozen Kin.lt0 Kin.lt1 Kin.lt2 Kin.lt3 run_mkf
set_option maxRecDepth 100000 in
set_option maxHeartbeats 4000000 in
theorem subtract18_any (v u : Value) (a b : List Reg.Row) (w : World) (ha : RdReg w v a) (hb : RdReg w u b) (ba : RBd a) (bb : RBd b) :
    Calls Tryz.prog 15 #[v, u] w fun e w' => (∃ A c, e = .returned (.agg #[.slice A (rop (opf 0) a b).length c]) ∧ RdReg w' (.agg #[.slice A (rop (opf 0) a b).length c]) (rop (opf 0) a b)) ∧ Below w.heap.size w w' := by
  have HA := Lib.hid ha
  have HB := Lib.hid hb
  obtain ⟨A, capA, rfl⟩ := ha.slice_
  obtain ⟨B, capB, rfl⟩ := hb.slice_
  clear ha hb
  go_enter Tryz.func15, Tryz.ntmps15
  go_wp2_with (go_at_call 38; (with_reducible refine (Kin.callK (W := ((w.alloc (.cells #[.slice A a.length capA] 24)).alloc (.cells #[.slice B b.length capB] 24)).alloc (.cells #[.slice none 0 0] 24)) gRw (operated_any _ _ a b 2 (.inr (.inr rfl)) _ (HA.out.below gRw) (HB.out.below gRw) ba bb)).mono ?_); rintro e w' ⟨z, ⟨r, rfl, hr⟩, hz, rfl⟩; (rw [show code 2 = 0 from rfl] at hr; (obtain ⟨R, capR, rfl⟩ := hr.slice_); have HR := Lib.hid hr; have B3 := Lib.hid z.boxes3.2.2; have q0 : (Kin.wd z).cell? ⟨w.heap.size + 2, 0, none⟩ = some (.slice none 0 0) := B3.out.cell 0; have qf : (Kin.wd z).frozen? ⟨w.heap.size + 2, 0, none⟩ = false := B3.out.frozen 0; have ql := B3.out.lt; clear hr))
  ((try simp only [Exit.inBlock, Exit.then]); refine bodyPost_ret (results_cell_row rfl _ _ _ _ _ (0, 0) _ rfl (B3.out.set_ 0 _) Tryz.underlying24 rfl (by kernel_rfl)) rfl ?_)
  exact ⟨⟨_, _, rfl, HR.out.set_ B3.out⟩, gRw⟩
end Go.Proofs.YtneelidbgigehaaGreat

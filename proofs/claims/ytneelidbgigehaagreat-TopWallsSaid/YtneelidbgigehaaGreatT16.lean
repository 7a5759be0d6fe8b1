/- Lemmas: TrcCl. -/
import Derived.Test.YtneelidbgigehaaGreatT04
import Derived.Test.YtneelidbgigehaaGreatT05
import Derived.Test.YtneelidbgigehaaGreatT12
import Derived.Test.YtneelidbgigehaaGreatT15
/- The rows below and above a row: around, walked. (joined: TrcAround TrcCol) -/
/- The rows below and above a row: around, walked. -/
namespace Go.Proofs.YtneelidbgigehaaGreat
set_option linter.unusedSimpArgs false
set_option linter.unusedVariables false
set_option maxRecDepth 100000
namespace Trc
open Runs Reg
theorem rowLt {rows : List Reg.Row} (h : VReg rows) {i j : Nat} {r q : Reg.Row} (hr : rows[i]? = some r) (hq : rows[j]? = some q) (hij : i < j) : r.1 < q.1 := by
  obtain ⟨hi, rfl⟩ := List.getElem?_eq_some_iff.1 hr
  obtain ⟨hj, rfl⟩ := List.getElem?_eq_some_iff.1 hq
  exact List.pairwise_iff_getElem.1 h.2 i j hi hj hij
theorem rwOf {rows : List Reg.Row} (h : VReg rows) {i : Nat} {r : Reg.Row} {y : Int} (hr : rows[i]? = some r) (hy : r.1 = y) : rwAt rows y = r.2 := by
  subst hy
  rcases rwAt_cases rows r.1 with ⟨v, hv, e1, e2⟩ | ⟨h1, _⟩
  · obtain ⟨j, hj⟩ := List.getElem?_of_mem hv
    rcases Nat.lt_trichotomy i j with h2 | h2 | h2
    · have := rowLt h hr hj h2; omega
    · subst h2; rw [hr] at hj; injection hj with hj; rw [e2, hj]
    · have := rowLt h hj hr h2; omega
  · exact absurd rfl (h1 r (List.mem_of_getElem? hr))
theorem rwNone {rows : List Reg.Row} {y : Int} (h : ∀ (j : Nat) r, rows[j]? = some r → r.1 ≠ y) : rwAt rows y = [] := by
  rcases rwAt_cases rows y with ⟨w, hw, e1, _⟩ | ⟨_, h2⟩
  · obtain ⟨j, hj⟩ := List.getElem?_of_mem hw
    exact absurd e1 (h j w hj)
  · exact h2
theorem below_none {rows : List Reg.Row} (h : VReg rows) {k : Nat} {r : Reg.Row} (hr : rows[k]? = some r) (hp : ∀ p, 0 < k → rows[k - 1]? = some p → p.1 ≠ r.1 - 1) : rwAt rows (r.1 - 1) = [] := rwNone fun j q hq e => by
  rcases Nat.lt_trichotomy j k with h1 | h1 | h1
  · by_cases h2 : j = k - 1
    · subst h2; exact hp q (by omega) hq e
    · obtain ⟨p, hpk⟩ : ∃ p, rows[k - 1]? = some p := ⟨_, List.getElem?_eq_getElem (by have := (List.getElem?_eq_some_iff.1 hr).1; omega)⟩
      have a := rowLt h hq hpk (by omega)
      have b := rowLt h hpk hr (by omega)
      omega
  · subst h1; rw [hr] at hq; injection hq with hq; subst hq; omega
  · have := rowLt h hr hq h1; omega
theorem above_none {rows : List Reg.Row} (h : VReg rows) {k : Nat} {r : Reg.Row} (hr : rows[k]? = some r) (hp : ∀ p, rows[k + 1]? = some p → p.1 ≠ r.1 + 1) : rwAt rows (r.1 + 1) = [] := rwNone fun j q hq e => by
  rcases Nat.lt_trichotomy k j with h1 | h1 | h1
  · by_cases h2 : j = k + 1
    · subst h2; exact hp q hq e
    · obtain ⟨p, hpk⟩ : ∃ p, rows[k + 1]? = some p := ⟨_, List.getElem?_eq_getElem (by have := (List.getElem?_eq_some_iff.1 hq).1; omega)⟩
      have a := rowLt h hpk hq (by omega)
      have b := rowLt h hr hpk (by omega)
      omega
  · subst h1; rw [hr] at hq; injection hq with hq; subst hq; omega
  · have := rowLt h hq hr h1; omega
end Trc
open Go.RowKit Runs Reg Trc
attribute [local go_sem] Kin.cell Kin.frozen Kin.lt0 Kin.lt1 Kin.lt2 Kin.lt3 run_mkf
set_option maxHeartbeats 8000000 in
theorem around_any (W0 : World) (s : Value) (rows : List Reg.Row) (k : Nat) (r : Reg.Row) (w : World) (hbw : Below W0.heap.size W0 w) (h : RdRows W0 s rows) (hv : VReg rows) (hr : rows[k]? = some r) :
    Calls Tryz.prog 41 #[.agg #[s], .int .i64 k] w fun e w' => (∃ u v, e = .returned (.tuple #[u, v]) ∧ Rd 2 encRun W0 u (rwAt rows (r.1 - 1)) ∧ Rd 2 encRun W0 v (rwAt rows (r.1 + 1))) ∧ Below w.heap.size w w' := by
  have hok : -4096 ≤ r.1 ∧ r.1 < 4096 := by have := (hv.1 r (List.mem_of_getElem? hr)).1; simpa [okC] using this
  have hlen := (vreg_len hv).1
  have hkl := (List.getElem?_eq_some_iff.1 hr).1
  obtain ⟨A, capA, rfl, hcapA, hop⟩ := rows_open h
  obtain ⟨b, off, rfl, hb, hcell⟩ := hop k r hr
  obtain ⟨S, c, r_0, r_1, hc, hS⟩ := hcell k r hr
  have hbw2 := hbw.size
  have hb3 : b < w.heap.size := Nat.lt_of_lt_of_le hb hbw2
  have hb2 : b < w.heap.size + 1 := by omega
  have cel : ∀ (i : Nat) (u : Value), W0.cell? ⟨b, i, none⟩ = some u → w.cell? ⟨b, i, none⟩ = some u := fun i u hu => (hbw.cell (p := ⟨b, i, none⟩) hb).trans hu
  replace r_0 := cel _ _ r_0
  replace r_1 := cel _ _ r_1
  have e1 : IntKind.i64.wrap (r.1 - 1) = r.1 - 1 := IntWalk.i64_in _ (by omega)
  have e2 : IntKind.i64.wrap (r.1 + 1) = r.1 + 1 := IntWalk.i64_in _ (by omega)
  have e3 : IntKind.i64.wrap ((k : Int) + 1) = (k : Int) + 1 := IntWalk.i64_in _ (by omega)
  have HLO : ∃ (lo : Bool) (u : Value), Hid (Rd 2 encRun W0 u (rwAt rows (r.1 - 1))) ∧ ((lo = false ∧ u = .slice none 0 0 ∧ (k = 0 ∨ ∃ p : Reg.Row, (0 < k ∧ IntKind.i64.wrap ((k : Int) - 1) = ((k - 1 : Nat) : Int)) ∧ w.cell? ⟨b, off + (k - 1) * 2, none⟩ = some (.int .i64 p.1) ∧ ¬ p.1 = r.1 - 1)) ∨
      (lo = true ∧ ∃ p : Reg.Row, (0 < k ∧ IntKind.i64.wrap ((k : Int) - 1) = ((k - 1 : Nat) : Int)) ∧ w.cell? ⟨b, off + (k - 1) * 2, none⟩ = some (.int .i64 p.1) ∧ p.1 = r.1 - 1 ∧ w.cell? ⟨b, off + (k - 1) * 2 + 1, none⟩ = some u)) := by
    by_cases hk : k = 0
    · exact ⟨false, _, Lib.hid (by rw [below_none hv hr (fun p h0 => by omega)]; exact Rd.nil), .inl ⟨rfl, rfl, .inl hk⟩⟩
    · have hkk : 0 < k ∧ IntKind.i64.wrap ((k : Int) - 1) = ((k - 1 : Nat) : Int) := ⟨by omega, by rw [IntWalk.i64_in _ (by omega)]; omega⟩
      obtain ⟨p, hp⟩ : ∃ p, rows[k - 1]? = some p := ⟨_, List.getElem?_eq_getElem (by omega)⟩
      obtain ⟨S2, c2, p_0, p_1, _, hS2⟩ := hcell _ p hp
      replace p_0 := cel _ _ p_0
      replace p_1 := cel _ _ p_1
      by_cases e : p.1 = r.1 - 1
      · exact ⟨true, _, Lib.hid (by rw [rwOf hv hp e]; exact hS2), .inr ⟨rfl, p, hkk, p_0, e, p_1⟩⟩
      · exact ⟨false, _, Lib.hid (by rw [below_none hv hr (fun q _ hq => by rw [hp] at hq; injection hq with hq; subst hq; exact e)]; exact Rd.nil), .inl ⟨rfl, rfl, .inr ⟨p, hkk, p_0, e⟩⟩⟩
  have HHI : ∃ (hi : Bool) (u : Value), Hid (Rd 2 encRun W0 u (rwAt rows (r.1 + 1))) ∧ ((hi = false ∧ u = .slice none 0 0 ∧ (rows.length ≤ k + 1 ∨ ∃ p : Reg.Row, k + 1 < rows.length ∧ w.cell? ⟨b, off + (k + 1) * 2, none⟩ = some (.int .i64 p.1) ∧ ¬ p.1 = r.1 + 1)) ∨
      (hi = true ∧ ∃ p : Reg.Row, k + 1 < rows.length ∧ w.cell? ⟨b, off + (k + 1) * 2, none⟩ = some (.int .i64 p.1) ∧ p.1 = r.1 + 1 ∧ w.cell? ⟨b, off + (k + 1) * 2 + 1, none⟩ = some u)) := by
    by_cases hk : rows.length ≤ k + 1
    · exact ⟨false, _, Lib.hid (by rw [above_none hv hr (fun p h0 => by have := (List.getElem?_eq_some_iff.1 h0).1; omega)]; exact Rd.nil), .inl ⟨rfl, rfl, .inl hk⟩⟩
    · obtain ⟨p, hp⟩ : ∃ p, rows[k + 1]? = some p := ⟨_, List.getElem?_eq_getElem (by omega)⟩
      obtain ⟨S2, c2, p_0, p_1, _, hS2⟩ := hcell _ p hp
      replace p_0 := cel _ _ p_0
      replace p_1 := cel _ _ p_1
      by_cases e : p.1 = r.1 + 1
      · exact ⟨true, _, Lib.hid (by rw [rwOf hv hp e]; exact hS2), .inr ⟨rfl, p, by omega, p_0, e, p_1⟩⟩
      · exact ⟨false, _, Lib.hid (by rw [above_none hv hr (fun q hq => by rw [hp] at hq; injection hq with hq; subst hq; exact e)]; exact Rd.nil), .inl ⟨rfl, rfl, .inr ⟨p, by omega, p_0, e⟩⟩⟩
  obtain ⟨rn, hrn⟩ : ∃ rn, rows.length = rn := ⟨_, rfl⟩
  rw [hrn] at hcapA hlen hkl HHI ⊢
  obtain ⟨lo, u, HU, HLO⟩ := HLO
  obtain ⟨hi, v, HV, HHI⟩ := HHI
  clear hop hcell hS h hv hr hrn cel hbw
  rcases HLO with ⟨rfl, rfl, hk0 | ⟨p, ⟨hk1, hk2⟩, p_0, hpe⟩⟩ | ⟨rfl, p, ⟨hk1, hk2⟩, p_0, hpe, p_1⟩ <;>
  rcases HHI with ⟨rfl, rfl, hn0 | ⟨q, hn1, q_0, hqe⟩⟩ | ⟨rfl, q, hn1, q_0, hqe, q_1⟩
  all_goals
    (first | (have hkz : ¬ (0 : Int) < (k : Int) := (by omega); clear hk0) | (have hkz : (0 : Int) < (k : Int) := (by omega)))
    (first | (have hnz : ¬ (k : Int) + 1 < (rn : Int) := (by omega)) | (have hnz : (k : Int) + 1 < (rn : Int) := (by omega)))
    go_enter Tryz.func41, Tryz.ntmps41
    go_wp2_with fail
    go_ret2
    exact ⟨⟨_, _, rfl, HU.out, HV.out⟩, gRw⟩
end Go.Proofs.YtneelidbgigehaaGreat
/- The cracks of a valid region, collected: walked. -/
namespace Go.Proofs.YtneelidbgigehaaGreat
set_option linter.unusedSimpArgs false
set_option linter.unusedVariables false
set_option maxRecDepth 100000
namespace Trc
open Runs Reg
theorem nums_succ {l : List Run} {k : Nat} {r : Run} (h : l[k]? = some r) : nums (l.take (k + 1)) = nums (l.take k) ++ upFrom r.1 (r.2 - r.1).toNat := by
  unfold nums; rw [List.take_add_one, h]; simp
theorem nums_len (l : List Run) (k : Nat) : (nums (l.take k)).length ≤ (nums l).length := by
  have : nums l = nums (l.take k) ++ nums (l.drop k) := by unfold nums; rw [← List.flatMap_append, List.take_append_drop]
  rw [this, List.length_append]; omega
def f0 (y : Int) (k : Int) : Ck := ((k, y), 0)
def f2 (y : Int) (k : Int) : Ck := ((k + 1, y + 1), 2)
theorem ck0_is (y : Int) (l : List Run) : ck0 y l = (nums l).map (f0 y) := rfl
theorem ck2_is (y : Int) (l : List Run) : ck2 y l = (nums l).map (f2 y) := rfl
theorem ck13_succ {y : Int} {l : List Run} {k : Nat} {r : Run} (h : l[k]? = some r) : ck13 y (l.take (k + 1)) = ck13 y (l.take k) ++ [((r.2, y), 1)] ++ [((r.1, y + 1), 3)] := by
  unfold ck13; rw [List.take_add_one, h]; simp
theorem ck13_len (y : Int) (l : List Run) : (ck13 y l).length = 2 * l.length := by
  induction l with
  | nil => rfl
  | cons r l ih =>
    have e : ck13 y (r :: l) = [((r.2, y), 1), ((r.1, y + 1), 3)] ++ ck13 y l := rfl
    rw [e, List.length_append, ih]; simp; omega
theorem ckR_succ {rows : List Reg.Row} {k : Nat} {r : Reg.Row} (h : rows[k]? = some r) : (rows.take (k + 1)).flatMap (rowCk rows) = (rows.take k).flatMap (rowCk rows) ++ rowCk rows r := by
  rw [List.take_add_one, h]; simp
theorem ckR_pre (rows : List Reg.Row) (k : Nat) : ((rows.take k).flatMap (rowCk rows)).length ≤ (ckR rows).length := by
  have : ckR rows = (rows.take k).flatMap (rowCk rows) ++ (rows.drop k).flatMap (rowCk rows) := by unfold ckR; rw [← List.flatMap_append, List.take_append_drop]
  rw [this, List.length_append]; omega
theorem ckR_row {rows : List Reg.Row} {k : Nat} {r : Reg.Row} (h : rows[k]? = some r) : (rowCk rows r).length ≤ (ckR rows).length := by
  have := ckR_pre rows (k + 1)
  rw [ckR_succ h, List.length_append] at this; omega
theorem setop_sub {a b : List Run} (ha : valid a = true) (hb : valid b = true) : setop (opf 0) a b = subR a b := by
  unfold setop subR
  rw [ha, hb]
  rfl
theorem sub_in {a b : List Run} (ha : SepIn a) (hb : SepIn b) : SepIn (subR a b) := choose_in rfl ha hb
end Trc
open Go Go.Maps Go.RowKit Runs Reg Trc
attribute [local go_sem] Kin.cell Kin.frozen Kin.lt0 Kin.lt1 Kin.lt2 Kin.lt3 run_mkf
theorem run_mkmapC (t : TypeId) (w : World) : (Instr.makeMap t none).run Tryz.prog w = .ok (.map (some w.heap.size)) (w.alloc (.map #[] 0)) := rfl
attribute [local go_sem] run_mkmapC
theorem CkM.made (base : Nat) (w : World) : CkM base (w.alloc (.map #[] 0)) w.heap.size 0 [] := ⟨_, CkF.start w⟩
/-- what the loops over a row carry on -/
structure ColI (W1 : World) (g5 : Nat) (cs : Array Value) (R : List Ck) (wr : World) : Prop where
  ck : CkM W1.heap.size wr W1.heap.size R.length R
  row : Blk wr g5 44 cs
  kin : Below W1.heap.size W1 wr
theorem ColI.below {W1 wr wr' : World} {g5 : Nat} {cs : Array Value} {R : List Ck} (h : ColI W1 g5 cs R wr) (hb : Below wr.heap.size wr wr') : ColI W1 g5 cs R wr' :=
  ⟨h.ck.below hb, h.row.below hb, h.kin.trans (hb.mono h.kin.size)⟩
theorem ColI.add {W1 wr wr' : World} {g5 : Nat} {cs : Array Value} {R : List Ck} {c : Ck} (h : ColI W1 g5 cs R wr) (hc : CkM W1.heap.size wr' W1.heap.size (R.length + 1) (R ++ [c])) (hb : Below W1.heap.size wr wr') (hk : Kept wr wr') : ColI W1 g5 cs (R ++ [c]) wr' :=
  ⟨by rw [List.length_append]; exact hc, hk _ _ _ h.row (by decide), h.kin.trans hb⟩
set_option maxHeartbeats 8000000 in
theorem collect_any (s : Value) (rows : List Reg.Row) (w : World) (h : RdRows w s rows) (hv : VReg rows) (hT : (ckR rows).length ≤ 1000000) :
    Calls Tryz.prog 28 #[.agg #[s]] w fun e w' => (∃ m, e = .returned (.map (some m)) ∧ w.heap.size ≤ m ∧ CkM m w' m (ckR rows).length (ckR rows)) ∧ Below w.heap.size w w' := by
  obtain ⟨W1, hW1⟩ : ∃ W1, w.alloc (.cells #[s] 24) = W1 := ⟨_, rfl⟩
  have hb1 : Below w.heap.size w W1 := hW1 ▸ (Below.refl _ _).alloc (Nat.le_refl _) _
  have B1 : Blk W1 w.heap.size 24 #[s] := hW1 ▸ Blk.new _ _ _
  have H1 := RdN.below h hb1
  obtain ⟨A, capA, rfl, hcapA, hop⟩ := rows_open H1
  have HA := Lib.hid hop
  have HRW := Lib.hid H1
  have HV := Lib.hid hv
  have s_0 : W1.cell? ⟨w.heap.size, 0, none⟩ = some (.slice A rows.length capA) := B1.cell 0
  have hlen := (vreg_len hv).1
  obtain ⟨n, hn⟩ : ∃ n, rows.length = n := ⟨_, rfl⟩
  have HN := Lib.hid hn
  rw [hn] at HRW hcapA hlen s_0 hW1 B1 ⊢
  have HB1 := Lib.hid B1
  have HW1 := Lib.hid hW1
  have HB := Lib.hid hb1
  have hl1 := B1.lt
  obtain ⟨T, hTe⟩ : ∃ T, (ckR rows).length = T := ⟨_, rfl⟩
  have HTE := Lib.hid hTe
  rw [hTe] at hT ⊢
  clear hop hn H1 h hv B1 hb1 hTe
  have hs1 := Lib.hid (show w.heap.size + 1 = W1.heap.size by rw [← hW1, World.size_alloc])
  clear hW1
  go_enter Tryz.func28, Tryz.ntmps28
  go_wp2_with fail
  rw [HW1.out, hs1.out]
  go_loopw [20] (fun i wr => ∃ k : Nat, k ≤ n ∧ i = .int .i64 k ∧ Hid (CkM W1.heap.size wr W1.heap.size ((rows.take k).flatMap (rowCk rows)).length ((rows.take k).flatMap (rowCk rows))) ∧ ∃ y : Kin W1, y.1 = wr) (fun i _ => n - (intOf i).toNat)
  case atStart => exact ⟨0, Nat.zero_le _, rfl, Lib.hid (CkM.made _ _), ⟨W1.alloc _, gRw⟩, rfl⟩
  case round =>
    obtain ⟨k, hk, rfl, HC, y, rfl⟩ := hrel
    by_cases hlt : k < n
    · obtain ⟨r, hr⟩ : ∃ r, rows[k]? = some r := ⟨_, List.getElem?_eq_getElem (by rw [HN.out]; exact hlt)⟩
      obtain ⟨bA, offA, rfl, hbA, hcA⟩ := HA.out k r hr
      obtain ⟨S, cS, r_0, r_1, hcS, hrS⟩ := hcA k r hr
      have hrv := HV.out.1 r (List.mem_of_getElem? hr)
      have hin := (fine_sepIn.1 hrv.2).1
      have hok : -4096 ≤ r.1 ∧ r.1 < 4096 := by have := hrv.1; simpa [okC] using this
      have HRR := Lib.hid hr
      have HRS := Lib.hid hrS
      have HIN := Lib.hid hin
      have hpre := ckR_pre rows k
      have hrow := ckR_row hr
      rw [HTE.out] at hpre hrow
      obtain ⟨L, hL⟩ : ∃ L, (rows.take k).flatMap (rowCk rows) = L := ⟨_, rfl⟩
      have HL := Lib.hid hL
      rw [hL] at HC hpre
      clear hcA hr hrS hrv hin hL
      go_wp2_with fail
      obtain ⟨nr, hnr⟩ : ∃ nr, r.2.length = nr := ⟨_, rfl⟩
      have HNR := Lib.hid hnr
      have hnb : nr ≤ 8192 := by rw [← hnr]; exact sepIn_len HIN.out
      rw [hnr] at r_1 hcS HRS ⊢
      obtain ⟨CR, hCR⟩ : ∃ CR : Array Value, CR = #[.int .i64 r.1, .slice S nr cS] := ⟨_, rfl⟩
      have HCR := Lib.hid hCR
      obtain ⟨W5, hW5⟩ : ∃ W5, y.1.alloc (.cells #[.int .i64 r.1, .slice S nr cS] 44) = W5 := ⟨_, rfl⟩
      obtain ⟨g5, hg5⟩ : ∃ g5, y.1.heap.size = g5 := ⟨_, rfl⟩
      have hb5 : Below y.1.heap.size y.1 W5 := hW5 ▸ (Below.refl _ _).alloc (Nat.le_refl _) _
      have I5 : ColI W1 g5 CR L W5 := ⟨HC.out.below hb5, by rw [hCR, ← hW5, ← hg5]; exact Blk.new _ _ _, y.2.trans (hb5.mono y.2.size)⟩
      have HI5 := Lib.hid I5
      rw [hW5, hg5]
      clear hnr hCR hW5 hg5 hb5 I5 HC
      (go_at_call 41; (with_reducible refine (Kin.callK (W := W5) gRw (around_any W1 (.slice (some ⟨bA, offA, none⟩) n capA) rows k r _ HI5.out.kin HRW.out HV.out HRR.out)).mono ?_); rintro e w' ⟨z6, ⟨u1, u2, rfl, hu1, hu2⟩, hz6, rfl⟩; skip)
      have HU1 := Lib.hid hu1
      have HU2 := Lib.hid hu2
      have HI6 := Lib.hid (HI5.out.below hz6)
      obtain ⟨W6, hW6⟩ : ∃ W6, z6.1 = W6 := ⟨_, rfl⟩
      rw [hW6] at HI6 ⊢
      have c6_0 : W6.cell? ⟨g5, 0, none⟩ = some (.int .i64 r.1) := by have := HI6.out.row.cell 0; rw [HCR.out] at this; exact this
      have c6_1 : W6.cell? ⟨g5, 1, none⟩ = some (.slice S nr cS) := by have := HI6.out.row.cell 1; rw [HCR.out] at this; exact this
      have c6_l := HI6.out.row.lt
      clear hu1 hu2 hz6 hW6 HI5
      go_wp2_with fail
      have hlb := (vreg_len HV.out)
      have hin1 := rwAt_in HV.out (r.1 - 1)
      have hin2 := rwAt_in HV.out (r.1 + 1)
      have hsb1 := setop_sub (sepIn_valid HIN.out) (sepIn_valid hin1)
      have hsb2 := setop_sub (sepIn_valid HIN.out) (sepIn_valid hin2)
      have hr8 := sepIn_len HIN.out
      have hr9 := sepIn_len hin1
      have hr10 := sepIn_len hin2
      have HS1 := Lib.hid hsb1
      have HS2 := Lib.hid hsb2
      have hi01 := sub_in HIN.out hin1
      have hi02 := sub_in HIN.out hin2
      clear hlb hin1 hin2 hsb1 hsb2
      obtain ⟨lA, hlA⟩ : ∃ lA, subR r.2 (rwAt rows (r.1 - 1)) = lA := ⟨_, rfl⟩
      obtain ⟨lB, hlB⟩ : ∃ lB, subR r.2 (rwAt rows (r.1 + 1)) = lB := ⟨_, rfl⟩
      have HLA := Lib.hid hlA
      have HLB := Lib.hid hlB
      rw [hlA] at hi01
      rw [hlB] at hi02
      have HINA := Lib.hid hi01
      have HINB := Lib.hid hi02
      have hrw : (nums lA).length + (nums lB).length + 2 * r.2.length = (rowCk rows r).length := by
        unfold rowCk; rw [hlA, hlB, List.length_append, List.length_append, ck0_is, ck2_is, List.length_map, List.length_map, ck13_len]
      have HLTA := Lib.hid (show L.length + (nums lA).length ≤ 2000000 by omega)
      have HLTB := Lib.hid (show (L ++ (nums lA).map (f0 r.1)).length + (nums lB).length ≤ 3000000 by rw [List.length_append, List.length_map]; omega)
      have HLTC := Lib.hid (show ((L ++ (nums lA).map (f0 r.1)) ++ (nums lB).map (f2 r.1)).length ≤ 3000000 by rw [List.length_append, List.length_append, List.length_map, List.length_map]; omega)
      clear hi01 hi02 hlA hlB hrw
      (go_at_call 43; (with_reducible refine (Kin.callK (W := W6) gRw (subtract_own _ _ r.2 (rwAt rows (r.1 - 1)) _ (Rd.below HRS.out HI6.out.kin) (Rd.below HU1.out HI6.out.kin) (by omega) (by omega))).mono ?_); rintro e w' ⟨z7, ⟨uA, rfl, hu⟩, hz7, rfl⟩; skip)
      rw [HS1.out, HLA.out] at hu
      obtain ⟨AA, cA, rfl⟩ := own_slc hu
      obtain ⟨qA, hqA⟩ : ∃ qA, lA.length = qA := ⟨_, rfl⟩
      have HQA := Lib.hid hqA
      have hqbA : qA ≤ 8192 := by rw [← hqA]; exact sepIn_len HINA.out
      rw [hqA] at hu ⊢
      have HIA := Lib.hid (HI6.out.below hz7)
      obtain ⟨W7, hW7⟩ : ∃ W7, z7.1 = W7 := ⟨_, rfl⟩
      rw [hW7] at hu HIA ⊢
      obtain ⟨BA, hBA⟩ : ∃ BA, W6.heap.size = BA := ⟨_, rfl⟩
      rw [hBA] at hu
      have HOA := Lib.hid hu
      clear hu hqA hBA hz7 hW7 HI6 c6_0 c6_1 c6_l
      go_wp2_with fail
      go_loopw [36] (fun i wr => ∃ j : Nat, j ≤ qA ∧ i = .int .i64 j ∧ Hid (ColI W1 g5 CR (L ++ (nums (lA.take j)).map (f0 r.1)) wr) ∧ Hid (wr.ownsRow BA 69 2 (.slice AA qA cA) qA (lA.flatMap encRun))) (fun i _ => qA - (intOf i).toNat)
      case atStart => exact ⟨0, Nat.zero_le _, rfl, Lib.hid (show ColI W1 g5 CR (L ++ (nums (lA.take 0)).map (f0 r.1)) _ by simpa [nums] using HIA.out), HOA⟩
      case round =>
        clear HIA HOA
        obtain ⟨j, hj, rfl, HIA, HOA⟩ := hrel
        by_cases hjl : j < qA
        · obtain ⟨x, hx⟩ : ∃ x, lA[j]? = some x := ⟨_, List.getElem?_eq_getElem (by rw [HQA.out]; exact hjl)⟩
          obtain ⟨bX, offX, rfl, hbX, hcX⟩ := Rd.op (Rd.own' encRun_len (by decide) HOA.out) j x hx
          have x_0 : wr.cell? ⟨bX, offX + j * 2, none⟩ = some (.int .i64 x.1) := hcX j x hx 0 _ rfl
          have x_1 : wr.cell? ⟨bX, offX + j * 2 + 1, none⟩ = some (.int .i64 x.2) := hcX j x hx 1 _ rfl
          have hxr := HINA.out.2 x (List.mem_of_getElem? hx)
          have hxs := HINA.out.1.1 x (List.mem_of_getElem? hx)
          have HXX := Lib.hid hx
          have hnl := nums_len lA j
          obtain ⟨P, hP⟩ : ∃ P, L ++ (nums (lA.take j)).map (f0 r.1) = P := ⟨_, rfl⟩
          have hPl : P.length ≤ 6000000 := by rw [← hP, List.length_append, List.length_map]; have := HLTA.out; omega
          have HPP := Lib.hid hP
          rw [hP] at HIA
          clear hcX hx hP hnl
          go_wp2_with fail
          obtain ⟨W8, hW8⟩ : ∃ W8, wr.alloc (.cells #[.int .i64 x.1, .int .i64 x.2] 69) = W8 := ⟨_, rfl⟩
          obtain ⟨g8, hg8⟩ : ∃ g8, wr.heap.size = g8 := ⟨_, rfl⟩
          have hb8 : Below wr.heap.size wr W8 := hW8 ▸ (Below.refl _ _).alloc (Nat.le_refl _) _
          have HX8 := Lib.hid (show Blk W8 g8 69 #[.int .i64 x.1, .int .i64 x.2] by rw [← hW8, ← hg8]; exact Blk.new _ _ _)
          have HI8 := Lib.hid (HIA.out.below hb8)
          have HO8 := Lib.hid (own_below HOA.out hb8)
          rw [hW8, hg8]
          clear hW8 hg8 hb8 x_0 x_1
          go_loopw [10] (fun v wr => ∃ d : Nat, (d : Int) ≤ x.2 - x.1 ∧ v = .int .i64 (x.1 + d) ∧ Hid (ColI W1 g5 CR (P ++ (upFrom x.1 d).map (f0 r.1)) wr) ∧ Hid (Blk wr g8 69 #[.int .i64 x.1, .int .i64 x.2]) ∧ Hid (wr.ownsRow BA 69 2 (.slice (some ⟨bX, offX, none⟩) qA cA) qA (lA.flatMap encRun))) (fun v _ => (x.2 - intOf v).toNat)
          case atStart => exact ⟨0, by simp; omega, by simp, Lib.hid (show ColI W1 g5 CR (P ++ (upFrom x.1 0).map (f0 r.1)) _ by simpa [upFrom] using HI8.out), HX8, HO8⟩
          case round =>
            clear HI8 HX8 HO8
            obtain ⟨d, hd, rfl, HI8, HX8, HO8⟩ := hrel
            have y_0 : wr.cell? ⟨g5, 0, none⟩ = some (.int .i64 r.1) := by have := HI8.out.row.cell 0; rw [HCR.out] at this; exact this
            have yl := HI8.out.row.lt
            have x_0 : wr.cell? ⟨g8, 0, none⟩ = some (.int .i64 x.1) := HX8.out.cell 0
            have x_1 : wr.cell? ⟨g8, 1, none⟩ = some (.int .i64 x.2) := HX8.out.cell 1
            have xl := HX8.out.lt
            by_cases hdx : x.1 + (d : Int) < x.2
            · have e1 : IntKind.i64.wrap (x.1 + (d : Int) + 1) = x.1 + (d : Int) + 1 := IntWalk.i64_in _ (by omega)
              have e2 : IntKind.i64.wrap (r.1 + 1) = r.1 + 1 := IntWalk.i64_in _ (by omega)
              have hcl : (P ++ (upFrom x.1 d).map (f0 r.1)).length ≤ 1000000000 := by rw [List.length_append, List.length_map, upFrom_len]; omega
              have HDX := Lib.hid (And.intro hdx hd)
              go_wp2_with fail
              (go_at_call 54; (refine (add_any W1.heap.size _ W1.heap.size _ (x.1 + (d : Int), r.1) 0 HI8.out.ck (wfK_of (by simp only; omega)) (Nat.le_refl _) hcl).mono ?_); rintro e W9 ⟨rfl, hC9, hB9, hK9⟩)
              have HI9 := Lib.hid (HI8.out.add hC9 hB9 hK9)
              have HX9 := Lib.hid (hK9 _ _ _ HX8.out (by decide))
              have HO9 := Lib.hid (hK9.own HO8.out (by decide))
              clear hC9 hB9 hK9 y_0 x_0 x_1
              go_wp2_with fail
              obtain ⟨hdx2, hd2⟩ := HDX.out
              refine ⟨⟨d + 1, by omega, by simp; omega, Lib.hid ?_, HX9, HO9⟩, by simp [intOf]; omega⟩
              rw [upFrom_succ, List.map_append, ← List.append_assoc]
              exact HI9.out
            · have HT8 := Lib.hid (show P ++ (upFrom x.1 d).map (f0 r.1) = L ++ (nums (lA.take (j + 1))).map (f0 r.1) by rw [nums_succ HXX.out, List.map_append, ← List.append_assoc, HPP.out, show (x.2 - x.1).toNat = d by omega])
              clear y_0 x_0 x_1
              have x_0 : wr.cell? ⟨g8, 0, none⟩ = some (.int .i64 x.1) := HX8.out.cell 0
              have x_1 : wr.cell? ⟨g8, 1, none⟩ = some (.int .i64 x.2) := HX8.out.cell 1
              go_wp2_with fail
              refine ⟨⟨j + 1, by omega, by go_num, Lib.hid (by rw [← HT8.out]; exact HI8.out), HO8⟩, by simp [intOf]; omega⟩
        · have hjq : j = qA := by omega
          subst hjq
          have HT := Lib.hid (show L ++ (nums (lA.take j)).map (f0 r.1) = L ++ (nums lA).map (f0 r.1) by rw [List.take_of_length_le (by rw [HQA.out]; exact Nat.le_refl _)])
          have HIA2 := Lib.hid (show ColI W1 g5 CR (L ++ (nums lA).map (f0 r.1)) wr by rw [← HT.out]; exact HIA.out)
          clear HT HIA HOA
          have c6_0 : wr.cell? ⟨g5, 0, none⟩ = some (.int .i64 r.1) := by have := HIA2.out.row.cell 0; rw [HCR.out] at this; exact this
          have c6_1 : wr.cell? ⟨g5, 1, none⟩ = some (.slice S nr cS) := by have := HIA2.out.row.cell 1; rw [HCR.out] at this; exact this
          have c6_l := HIA2.out.row.lt
          go_wp2_with fail
          (go_at_call 43; (with_reducible refine (Kin.callK (W := wr) gRw (subtract_own _ _ r.2 (rwAt rows (r.1 + 1)) _ (Rd.below HRS.out HIA2.out.kin) (Rd.below HU2.out HIA2.out.kin) (by omega) (by omega))).mono ?_); rintro e w' ⟨z7, ⟨uB, rfl, hu⟩, hz7, rfl⟩; skip)
          rw [HS2.out, HLB.out] at hu
          obtain ⟨AB, cB, rfl⟩ := own_slc hu
          obtain ⟨qB, hqB⟩ : ∃ qB, lB.length = qB := ⟨_, rfl⟩
          have HQB := Lib.hid hqB
          have hqbB : qB ≤ 8192 := by rw [← hqB]; exact sepIn_len HINB.out
          rw [hqB] at hu ⊢
          have HIB := Lib.hid (HIA2.out.below hz7)
          obtain ⟨W9, hW9⟩ : ∃ W9, z7.1 = W9 := ⟨_, rfl⟩
          rw [hW9] at hu HIB ⊢
          obtain ⟨BB, hBB⟩ : ∃ BB, wr.heap.size = BB := ⟨_, rfl⟩
          rw [hBB] at hu
          have HOB := Lib.hid hu
          clear hu hqB hBB hz7 hW9 HIA2 c6_0 c6_1 c6_l
          go_wp2_with fail
          go_loopw [60] (fun i wr => ∃ j : Nat, j ≤ qB ∧ i = .int .i64 j ∧ Hid (ColI W1 g5 CR ((L ++ (nums lA).map (f0 r.1)) ++ (nums (lB.take j)).map (f2 r.1)) wr) ∧ Hid (wr.ownsRow BB 69 2 (.slice AB qB cB) qB (lB.flatMap encRun))) (fun i _ => qB - (intOf i).toNat)
          case atStart => exact ⟨0, Nat.zero_le _, rfl, Lib.hid (show ColI W1 g5 CR ((L ++ (nums lA).map (f0 r.1)) ++ (nums (lB.take 0)).map (f2 r.1)) _ by simpa [nums] using HIB.out), HOB⟩
          case round =>
            clear HIB HOB
            obtain ⟨j, hj, rfl, HIB, HOB⟩ := hrel
            by_cases hjl : j < qB
            · obtain ⟨x, hx⟩ : ∃ x, lB[j]? = some x := ⟨_, List.getElem?_eq_getElem (by rw [HQB.out]; exact hjl)⟩
              obtain ⟨bX, offX, rfl, hbX, hcX⟩ := Rd.op (Rd.own' encRun_len (by decide) HOB.out) j x hx
              have x_0 : wr.cell? ⟨bX, offX + j * 2, none⟩ = some (.int .i64 x.1) := hcX j x hx 0 _ rfl
              have x_1 : wr.cell? ⟨bX, offX + j * 2 + 1, none⟩ = some (.int .i64 x.2) := hcX j x hx 1 _ rfl
              have hxr := HINB.out.2 x (List.mem_of_getElem? hx)
              have hxs := HINB.out.1.1 x (List.mem_of_getElem? hx)
              have HXX := Lib.hid hx
              have hnl := nums_len lB j
              obtain ⟨P, hP⟩ : ∃ P, (L ++ (nums lA).map (f0 r.1)) ++ (nums (lB.take j)).map (f2 r.1) = P := ⟨_, rfl⟩
              have hPl : P.length ≤ 6000000 := by rw [← hP, List.length_append, List.length_map]; have := HLTB.out; omega
              have HPP := Lib.hid hP
              rw [hP] at HIB
              clear hcX hx hP hnl
              go_wp2_with fail
              obtain ⟨W8, hW8⟩ : ∃ W8, wr.alloc (.cells #[.int .i64 x.1, .int .i64 x.2] 69) = W8 := ⟨_, rfl⟩
              obtain ⟨g8, hg8⟩ : ∃ g8, wr.heap.size = g8 := ⟨_, rfl⟩
              have hb8 : Below wr.heap.size wr W8 := hW8 ▸ (Below.refl _ _).alloc (Nat.le_refl _) _
              have HX8 := Lib.hid (show Blk W8 g8 69 #[.int .i64 x.1, .int .i64 x.2] by rw [← hW8, ← hg8]; exact Blk.new _ _ _)
              have HI8 := Lib.hid (HIB.out.below hb8)
              have HO8 := Lib.hid (own_below HOB.out hb8)
              rw [hW8, hg8]
              clear hW8 hg8 hb8 x_0 x_1
              go_loopw [13] (fun v wr => ∃ d : Nat, (d : Int) ≤ x.2 - x.1 ∧ v = .int .i64 (x.1 + d) ∧ Hid (ColI W1 g5 CR (P ++ (upFrom x.1 d).map (f2 r.1)) wr) ∧ Hid (Blk wr g8 69 #[.int .i64 x.1, .int .i64 x.2]) ∧ Hid (wr.ownsRow BB 69 2 (.slice (some ⟨bX, offX, none⟩) qB cB) qB (lB.flatMap encRun))) (fun v _ => (x.2 - intOf v).toNat)
              case atStart => exact ⟨0, by simp; omega, by simp, Lib.hid (show ColI W1 g5 CR (P ++ (upFrom x.1 0).map (f2 r.1)) _ by simpa [upFrom] using HI8.out), HX8, HO8⟩
              case round =>
                clear HI8 HX8 HO8
                obtain ⟨d, hd, rfl, HI8, HX8, HO8⟩ := hrel
                have y_0 : wr.cell? ⟨g5, 0, none⟩ = some (.int .i64 r.1) := by have := HI8.out.row.cell 0; rw [HCR.out] at this; exact this
                have yl := HI8.out.row.lt
                have x_0 : wr.cell? ⟨g8, 0, none⟩ = some (.int .i64 x.1) := HX8.out.cell 0
                have x_1 : wr.cell? ⟨g8, 1, none⟩ = some (.int .i64 x.2) := HX8.out.cell 1
                have xl := HX8.out.lt
                by_cases hdx : x.1 + (d : Int) < x.2
                · have e1 : IntKind.i64.wrap (x.1 + (d : Int) + 1) = x.1 + (d : Int) + 1 := IntWalk.i64_in _ (by omega)
                  have e2 : IntKind.i64.wrap (r.1 + 1) = r.1 + 1 := IntWalk.i64_in _ (by omega)
                  have hcl : (P ++ (upFrom x.1 d).map (f2 r.1)).length ≤ 1000000000 := by rw [List.length_append, List.length_map, upFrom_len]; omega
                  have HDX := Lib.hid (And.intro hdx hd)
                  go_wp2_with fail
                  (go_at_call 54; (refine (add_any W1.heap.size _ W1.heap.size _ (x.1 + (d : Int) + 1, r.1 + 1) 2 HI8.out.ck (wfK_of (by simp only; omega)) (Nat.le_refl _) hcl).mono ?_); rintro e W9 ⟨rfl, hC9, hB9, hK9⟩)
                  have HI9 := Lib.hid (HI8.out.add hC9 hB9 hK9)
                  have HX9 := Lib.hid (hK9 _ _ _ HX8.out (by decide))
                  have HO9 := Lib.hid (hK9.own HO8.out (by decide))
                  clear hC9 hB9 hK9 y_0 x_0 x_1
                  go_wp2_with fail
                  obtain ⟨hdx2, hd2⟩ := HDX.out
                  refine ⟨⟨d + 1, by omega, by simp; omega, Lib.hid ?_, HX9, HO9⟩, by simp [intOf]; omega⟩
                  rw [upFrom_succ, List.map_append, ← List.append_assoc]
                  exact HI9.out
                · have HT8 := Lib.hid (show P ++ (upFrom x.1 d).map (f2 r.1) = (L ++ (nums lA).map (f0 r.1)) ++ (nums (lB.take (j + 1))).map (f2 r.1) by rw [nums_succ HXX.out, List.map_append, ← List.append_assoc, HPP.out, show (x.2 - x.1).toNat = d by omega])
                  clear y_0 x_0 x_1
                  have x_0 : wr.cell? ⟨g8, 0, none⟩ = some (.int .i64 x.1) := HX8.out.cell 0
                  have x_1 : wr.cell? ⟨g8, 1, none⟩ = some (.int .i64 x.2) := HX8.out.cell 1
                  go_wp2_with fail
                  refine ⟨⟨j + 1, by omega, by go_num, Lib.hid (by rw [← HT8.out]; exact HI8.out), HO8⟩, by simp [intOf]; omega⟩
            · have hjq : j = qB := by omega
              subst hjq
              have HT := Lib.hid (show (L ++ (nums lA).map (f0 r.1)) ++ (nums (lB.take j)).map (f2 r.1) = (L ++ (nums lA).map (f0 r.1)) ++ (nums lB).map (f2 r.1) by rw [List.take_of_length_le (by rw [HQB.out]; exact Nat.le_refl _)])
              have HIB2 := Lib.hid (show ColI W1 g5 CR ((L ++ (nums lA).map (f0 r.1)) ++ (nums lB).map (f2 r.1)) wr by rw [← HT.out]; exact HIB.out)
              clear HT HIB HOB
              have c6_0 : wr.cell? ⟨g5, 0, none⟩ = some (.int .i64 r.1) := by have := HIB2.out.row.cell 0; rw [HCR.out] at this; exact this
              have c6_1 : wr.cell? ⟨g5, 1, none⟩ = some (.slice S nr cS) := by have := HIB2.out.row.cell 1; rw [HCR.out] at this; exact this
              have c6_l := HIB2.out.row.lt
              go_wp2_with fail
              clear c6_0 c6_1 c6_l
              obtain ⟨M, hM⟩ : ∃ M, (L ++ (nums lA).map (f0 r.1)) ++ (nums lB).map (f2 r.1) = M := ⟨_, rfl⟩
              have HM := Lib.hid hM
              rw [hM] at HIB2 HLTC
              clear hM
              go_loopw [84] (fun i wr => ∃ j : Nat, j ≤ nr ∧ i = .int .i64 j ∧ Hid (ColI W1 g5 CR (M ++ ck13 r.1 (r.2.take j)) wr)) (fun i _ => nr - (intOf i).toNat)
              case atStart => exact ⟨0, Nat.zero_le _, rfl, Lib.hid (show ColI W1 g5 CR (M ++ ck13 r.1 (r.2.take 0)) _ by simpa [ck13] using HIB2.out)⟩
              case round =>
                clear HIB2
                obtain ⟨j, hj, rfl, HIC⟩ := hrel
                by_cases hjl : j < nr
                · obtain ⟨x, hx⟩ : ∃ x, r.2[j]? = some x := ⟨_, List.getElem?_eq_getElem (by rw [HNR.out]; exact hjl)⟩
                  obtain ⟨bX, offX, rfl, hbX, hcX⟩ := Rd.op HRS.out j x hx
                  have x_0 : wr.cell? ⟨bX, offX + j * 2, none⟩ = some (.int .i64 x.1) := (HIC.out.kin.cell (p := ⟨bX, offX + j * 2, none⟩) hbX).trans (hcX j x hx 0 _ rfl)
                  have x_1 : wr.cell? ⟨bX, offX + j * 2 + 1, none⟩ = some (.int .i64 x.2) := (HIC.out.kin.cell (p := ⟨bX, offX + j * 2 + 1, none⟩) hbX).trans (hcX j x hx 1 _ rfl)
                  have hbX2 : bX < wr.heap.size := Nat.lt_of_lt_of_le hbX HIC.out.kin.size
                  have hxr := HIN.out.2 x (List.mem_of_getElem? hx)
                  have hxs := HIN.out.1.1 x (List.mem_of_getElem? hx)
                  have HXX := Lib.hid hx
                  have hcl : (M ++ ck13 r.1 (r.2.take j)).length ≤ 4000000 := by rw [List.length_append, ck13_len, List.length_take]; have := HLTC.out; omega
                  have e2 : IntKind.i64.wrap (r.1 + 1) = r.1 + 1 := IntWalk.i64_in _ (by omega)
                  have y_0 : wr.cell? ⟨g5, 0, none⟩ = some (.int .i64 r.1) := by have := HIC.out.row.cell 0; rw [HCR.out] at this; exact this
                  have yl := HIC.out.row.lt
                  clear hcX hx
                  go_wp2_with fail
                  obtain ⟨W8, hW8⟩ : ∃ W8, wr.alloc (.cells #[.int .i64 x.1, .int .i64 x.2] 69) = W8 := ⟨_, rfl⟩
                  obtain ⟨g8, hg8⟩ : ∃ g8, wr.heap.size = g8 := ⟨_, rfl⟩
                  have hb8 : Below wr.heap.size wr W8 := hW8 ▸ (Below.refl _ _).alloc (Nat.le_refl _) _
                  have HX8 := Lib.hid (show Blk W8 g8 69 #[.int .i64 x.1, .int .i64 x.2] by rw [← hW8, ← hg8]; exact Blk.new _ _ _)
                  have HI8 := Lib.hid (HIC.out.below hb8)
                  rw [hW8, hg8]
                  clear hW8 hg8 hb8 x_0 x_1 y_0 yl
                  (go_at_call 54; (refine (add_any W1.heap.size _ W1.heap.size _ (x.2, r.1) 1 HI8.out.ck (wfK_of (by simp only; omega)) (Nat.le_refl _) (by omega)).mono ?_); rintro e W9 ⟨rfl, hC9, hB9, hK9⟩)
                  have HI9 := Lib.hid (HI8.out.add hC9 hB9 hK9)
                  have HX9 := Lib.hid (hK9 _ _ _ HX8.out (by decide))
                  have y_0 : W9.cell? ⟨g5, 0, none⟩ = some (.int .i64 r.1) := by have := HI9.out.row.cell 0; rw [HCR.out] at this; exact this
                  have yl := HI9.out.row.lt
                  have x_0 : W9.cell? ⟨g8, 0, none⟩ = some (.int .i64 x.1) := HX9.out.cell 0
                  have xl := HX9.out.lt
                  clear hC9 hB9 hK9
                  go_wp2_with fail
                  (go_at_call 54; (refine (add_any W1.heap.size _ W1.heap.size _ (x.1, r.1 + 1) 3 HI9.out.ck (wfK_of (by simp only; omega)) (Nat.le_refl _) (by rw [List.length_append, List.length_singleton]; omega)).mono ?_); rintro e W10 ⟨rfl, hC10, hB10, hK10⟩)
                  have HI10 := Lib.hid (HI9.out.add hC10 hB10 hK10)
                  clear hC10 hB10 hK10 y_0 x_0 yl xl
                  go_wp2_with fail
                  refine ⟨⟨j + 1, by omega, by go_num, Lib.hid (by rw [ck13_succ HXX.out, ← List.append_assoc, ← List.append_assoc]; exact HI10.out)⟩, by simp [intOf]; omega⟩
                · have hjq : j = nr := by omega
                  subst hjq
                  have HT := Lib.hid (show M ++ ck13 r.1 (r.2.take j) = (rows.take (k + 1)).flatMap (rowCk rows) by
                    rw [List.take_of_length_le (by rw [HNR.out]; exact Nat.le_refl _), ckR_succ HRR.out, HL.out, ← HM.out]
                    unfold rowCk
                    rw [HLA.out, HLB.out, ck0_is, ck2_is]
                    simp only [List.append_assoc])
                  have HF := Lib.hid (show CkM W1.heap.size wr W1.heap.size ((rows.take (k + 1)).flatMap (rowCk rows)).length ((rows.take (k + 1)).flatMap (rowCk rows)) by rw [← HT.out]; exact HIC.out.ck)
                  have HK := Lib.hid HIC.out.kin
                  clear HT HIC
                  go_wp2_with fail
                  go_roundw
                  case rel => exact ⟨k + 1, by omega, by go_num, HF, ⟨wr, HK.out⟩, rfl⟩
                  case measure => simp [intOf]; omega
    · have hkn : k = n := by omega
      subst hkn
      have HT := Lib.hid (show (rows.take k).flatMap (rowCk rows) = ckR rows by rw [List.take_of_length_le (by rw [HN.out]; exact Nat.le_refl _)]; rfl)
      rw [HT.out, HTE.out] at HC
      go_wp2_with fail
      go_ret
      exact ⟨⟨_, rfl, HB.out.size, HC.out⟩, HB.out.trans (y.2.mono HB.out.size)⟩
end Go.Proofs.YtneelidbgigehaaGreat

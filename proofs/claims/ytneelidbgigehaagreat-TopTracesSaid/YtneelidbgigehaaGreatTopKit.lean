/- Arguments that are regions whose lists Go can hold. (joined: TopIn TopBox TopLen) -/
import Derived.Test.YtneelidbgigehaaGreatRegGen
import Derived.Test.YtneelidbgigehaaGreatRegBox
import Derived.Test.YtneelidbgigehaaGreatTrcCl
import Derived.Test.YtneelidbgigehaaGreatRegWalks2
/- Arguments that are regions whose lists Go can hold. -/
namespace Go.Proofs.YtneelidbgigehaaGreat
set_option linter.unusedSimpArgs false
set_option linter.unusedVariables false
set_option maxRecDepth 100000
open Go.ChangeShapes Go.WideShapes Go.ChangeAt Go.RowKit Go.Joins Runs Reg
def IsRegB (W : World) (v : Value) : Prop := ∃ rows : List Reg.Row, RdReg W v rows ∧ RBd rows
section
variable {H : Type} {enc : TypeId × Value → H} {W : World} {base : Nat} {spare : Nat → Bool} {held : Bool} {r : Reach} {b0 : Nat} {v : Value} {d : DataW H} {ps : List MemPlace}
theorem slice_max {α : Type} {k : Nat} {en : α → List Value} {t e : TypeId} (ht : Tryz.prog.underlying t = some (.slice e)) {fuel : Nat} {x : DataW H × List MemPlace} (h : DataW.trod enc Tryz.prog W 0 spare held fuel t [v] = some x) {l : List α} (hl : Rd k en W v l) : l.length ≤ 9223372036854775807 := by
  obtain ⟨A, cap, rfl, _⟩ := hl.open_
  rcases Go.Deep.open_slice ht h with ⟨hc, _⟩ | ⟨a, len, cap, m, n, D, Pl, hc, _, h1, h2, _⟩
  · simp at hc
    omega
  · simp at hc
    have : cap ≤ 2 ^ 63 - 1 := h2
    omega
theorem trod_rowB {fuel : Nat} {cs : List Value} {x : DataW H × List MemPlace} (h : DataW.trod enc Tryz.prog W 0 spare held fuel 44 cs = some x) : ∃ p : RowH, cs = encRow p ∧ ∃ l, Rd 2 encRun W (rsl p) l ∧ l.length ≤ 9223372036854775807 := by
  obtain ⟨y0, y1, n, _, hl, t0, t1⟩ := trod_struct2 Tryz.underlying44 h
  have hc : Tryz.prog.cellsOf 44 = 2 := by kernel_rfl
  have hi : Tryz.prog.cellsOf 3 = 1 := by kernel_rfl
  have hj : Tryz.prog.cellsOf 42 = 1 := by kernel_rfl
  rw [hc] at hl
  match cs, hl with
  | [c0, c1], _ =>
    simp only [hi, hj] at t0 t1
    obtain ⟨n0, e0, _, w0⟩ := DataW.trod_int Tryz.underlying3 t0
    simp at e0 t1
    subst e0
    obtain ⟨l, hrd⟩ := runs_rd t1
    have hm := slice_max Tryz.underlying42 t1 hrd
    obtain ⟨A, cap, rfl, _⟩ := hrd.open_
    exact ⟨(n0, A, l.length, cap), rfl, l, hrd, hm⟩
theorem nest_ofB {hs : List RowH} (h : ∀ p ∈ hs, ∃ l, Rd 2 encRun W (rsl p) l ∧ l.length ≤ 9223372036854775807) : ∃ rows : List Reg.Row, NestAt rsl rtag 2 encRun (fun w : Reg.Row => w.2) W hs rows ∧ ∀ w ∈ rows, w.2.length ≤ 9223372036854775807 := by
  induction hs with
  | nil => exact ⟨[], ⟨rfl, fun i h x hh => by simp at hh⟩, by simp⟩
  | cons p hs ih =>
    obtain ⟨rows, ⟨h1, h2⟩, h3⟩ := ih (fun q hq => h q (by simp [hq]))
    obtain ⟨l, hl, hm⟩ := h p (by simp)
    refine ⟨(p.1, l) :: rows, ⟨by simp [h1], fun i q x hq hx => ?_⟩, ?_⟩
    · match i, hq, hx with
      | 0, hq, hx => simp at hq hx; subst hq hx; exact ⟨rfl, hl⟩
      | i + 1, hq, hx => exact h2 i q x (by simpa using hq) (by simpa using hx)
    · intro w hw
      rcases List.mem_cons.1 hw with rfl | hw
      · exact hm
      · exact h3 w hw
theorem rows_rdB {fuel : Nat} {v : Value} {x : DataW H × List MemPlace} (h : DataW.trod enc Tryz.prog W 0 spare held fuel 22 [v] = some x) : ∃ rows, RdRows W v rows ∧ RBd rows := by
  obtain ⟨hs, h1, h2⟩ := rd_slice (R := fun p : RowH => ∃ l, Rd 2 encRun W (rsl p) l ∧ l.length ≤ 9223372036854775807) Tryz.underlying22 (by kernel_rfl) (by omega) encRow_len (fun n cs y hy => trod_rowB hy) h
  have hm := slice_max Tryz.underlying22 h h1
  obtain ⟨rows, h3, h4⟩ := nest_ofB h2
  exact ⟨rows, ⟨hs, h1, h3⟩, h3.1 ▸ hm, h4⟩
theorem trod_regB {fuel : Nat} {cs : List Value} {x : DataW H × List MemPlace} (h : DataW.trod enc Tryz.prog W 0 spare held fuel 24 cs = some x) : ∃ A n c, cs = [.slice A n c] ∧ IsRegB W (.agg #[.slice A n c]) := by
  obtain ⟨y0, n, _, hl, t0⟩ := trod_struct1 Tryz.underlying24 h
  have hc : Tryz.prog.cellsOf 24 = 1 := by kernel_rfl
  have hj : Tryz.prog.cellsOf 22 = 1 := by kernel_rfl
  rw [hc] at hl
  match cs, hl with
  | [c0], _ =>
    simp only [hj] at t0
    simp at t0
    obtain ⟨rows, hrd, hb⟩ := rows_rdB t0
    obtain ⟨A, cap, rfl, _⟩ := rows_open hrd
    exact ⟨A, rows.length, cap, rfl, rows, ⟨_, rfl, hrd⟩, hb⟩
theorem open_regB (hv : Value.okWide Tryz.prog W r b0 24 v) (h : DataW.Trod enc Tryz.prog W 0 spare held 24 v d ps) : IsRegB W v := by
  obtain ⟨cs, rfl, hsz⟩ := okWide_struct Tryz.underlying24 hv
  obtain ⟨fuel, hf⟩ := h
  obtain ⟨A, n, c, hp, hr⟩ := trod_regB hf
  obtain ⟨l⟩ := cs
  simp only [Value.cells] at hp
  rw [hp]
  exact hr
end
end Go.Proofs.YtneelidbgigehaaGreat
/- Cells lie within a region's bounds. -/
namespace Go.Proofs.YtneelidbgigehaaGreat
set_option linter.unusedSimpArgs false
set_option linter.unusedVariables false
open Runs Reg Trc
theorem sep_first {l : List Run} (h : Sep l) {x : Int} (hm : mem l x = true) {e : Run} (he : l[0]? = some e) : e.1 ≤ x := by
  obtain ⟨r, hr, h1, h2⟩ := mem_iff.1 hm
  obtain ⟨i, hi, rfl⟩ := List.getElem_of_mem hr
  obtain ⟨h0, rfl⟩ := List.getElem?_eq_some_iff.1 he
  rcases Nat.eq_zero_or_pos i with h3 | h3
  · subst h3; exact h1
  · have := List.pairwise_iff_getElem.1 h.2 0 i h0 hi h3
    have h4 := h.1 _ (List.getElem_mem h0)
    omega
theorem sep_last {l : List Run} (h : Sep l) {x : Int} (hm : mem l x = true) {e : Run} (he : l[l.length - 1]? = some e) : x ≤ e.2 - 1 := by
  obtain ⟨r, hr, h1, h2⟩ := mem_iff.1 hm
  obtain ⟨i, hi, rfl⟩ := List.getElem_of_mem hr
  obtain ⟨h0, rfl⟩ := List.getElem?_eq_some_iff.1 he
  by_cases h3 : i = l.length - 1
  · subst h3; omega
  · have := List.pairwise_iff_getElem.1 h.2 i (l.length - 1) hi h0 (by omega)
    have h4 := h.1 _ (List.getElem_mem h0)
    omega
theorem bx_le {rows : List Reg.Row} {t : Nat} {w : Reg.Row} {e f : Run} (hw : rows[t]? = some w) (he : w.2[0]? = some e) (hf : w.2[w.2.length - 1]? = some f) : ∀ k, t < k → bxLo rows k ≤ e.1 ∧ f.2 - 1 ≤ bxHi rows k
  | 0, h => by omega
  | k + 1, h => by
    by_cases h1 : t = k
    · subst h1
      rw [bxLo_succ hw he, bxHi_succ hw hf]
      omega
    · have ih := bx_le hw he hf k (by omega)
      rw [bxLo, bxHi]
      omega
/-- cells lie within the bounds -/
theorem box_in {rows : List Reg.Row} (h : rvalid rows = true) {x y : Int} (hm : memC rows x y = true) : (boxR rows).1.1 ≤ x ∧ x ≤ (boxR rows).2.1 ∧ (boxR rows).1.2 ≤ y ∧ y ≤ (boxR rows).2.2 := by
  have hv := rvalid_iff.1 h
  obtain ⟨w, hw, h1, h2⟩ := memC_iff.1 hm
  obtain ⟨t, ht, rfl⟩ := List.getElem_of_mem hw
  have hn : rows ≠ [] := by intro e; subst e; exact absurd ht (by simp)
  have hf := fine_sepIn.1 (hv.1 _ hw).2
  have hp : 0 < rows[t].2.length := List.length_pos_iff.2 hf.2
  have ht2 : rows[t]? = some rows[t] := List.getElem?_eq_getElem ht
  have he : rows[t].2[0]? = some rows[t].2[0] := List.getElem?_eq_getElem hp
  have hl : rows[t].2[rows[t].2.length - 1]? = some rows[t].2[rows[t].2.length - 1] := List.getElem?_eq_getElem (by omega)
  have hb := bx_le ht2 he hl rows.length ht
  have a1 := sep_first hf.1.1 h2 he
  have a2 := sep_last hf.1.1 h2 hl
  have q0 : rows[0]? = some rows[0] := List.getElem?_eq_getElem (by omega)
  have q1 : rows[rows.length - 1]? = some rows[rows.length - 1] := List.getElem?_eq_getElem (by omega)
  have b1 : rows[0].1 ≤ y := by
    rcases Nat.eq_zero_or_pos t with h3 | h3
    · subst h3; omega
    · have := rowLt hv q0 ht2 h3; omega
  have b2 : y ≤ rows[rows.length - 1].1 := by
    by_cases h3 : t = rows.length - 1
    · subst h3; omega
    · have := rowLt hv ht2 q1 (by omega); omega
  have e : boxR rows = ((bxLo rows rows.length, rows[0].1), (bxHi rows rows.length, rows[rows.length - 1].1)) := by unfold boxR; rw [if_pos ⟨h, hn⟩, q0, q1]; rfl
  rw [e]
  simp only
  omega
end Go.Proofs.YtneelidbgigehaaGreat
/- The number of cracks: Length, walked. -/
namespace Go.Proofs.YtneelidbgigehaaGreat
set_option linter.unusedSimpArgs false
set_option linter.unusedVariables false
set_option maxRecDepth 100000
open Go.RowKit Trc Runs Reg
attribute [local go_sem] Kin.cell Kin.frozen Kin.lt0 Kin.lt1 Kin.lt2 Kin.lt3 run_mkf
def lenRow (rows : List Reg.Row) (r : Reg.Row) : Int := lenL (setop (opf 0) r.2 (rwAt rows (r.1 - 1))) + lenL (setop (opf 0) r.2 (rwAt rows (r.1 + 1))) + 2 * (r.2.length : Int)
def lenTo (rows : List Reg.Row) (k : Nat) : Int := ((rows.take k).map (lenRow rows)).foldl (· + ·) 0
theorem lenTo_succ {rows : List Reg.Row} {k : Nat} {r : Reg.Row} (h : rows[k]? = some r) : lenTo rows (k + 1) = lenTo rows k + lenRow rows r := by
  unfold lenTo; rw [List.take_add_one, h]; simp
theorem choose_len' (a b : List Run) : (setop (opf 0) a b).length ≤ 2 * (a.length + b.length) := by
  unfold setop
  split
  · exact choose_len _ a b
  · simp
theorem lenIs {z : Int} (v : Value) (l : List Run) (w : World) (h : Rd 2 encRun w v l) (hlen : l.length ≤ 1099511627776) (hz : lenL l = z) : Calls Tryz.prog 42 #[v] w fun e w' => e = .returned (.int .i64 z) ∧ Below w.heap.size w w' := by subst hz; exact length_any v l w h hlen
set_option maxHeartbeats 8000000 in
theorem lengthB_any (s : Value) (rows : List Reg.Row) (w : World) (h : RdRows w s rows) (hv : VReg rows) (hn : rows.length ≤ 16) (hb : ∀ r ∈ rows, 0 ≤ lenL (setop (opf 0) r.2 (rwAt rows (r.1 - 1))) ∧ lenL (setop (opf 0) r.2 (rwAt rows (r.1 - 1))) ≤ 10000 ∧ 0 ≤ lenL (setop (opf 0) r.2 (rwAt rows (r.1 + 1))) ∧ lenL (setop (opf 0) r.2 (rwAt rows (r.1 + 1))) ≤ 10000) :
    Calls Tryz.prog 22 #[.agg #[s]] w fun e w' => e = .returned (.int .i64 (lenTo rows rows.length)) ∧ Below w.heap.size w w' := by
  obtain ⟨W1, hW1⟩ : ∃ W1, w.alloc (.cells #[s] 24) = W1 := ⟨_, rfl⟩
  have hb1 : Below w.heap.size w W1 := hW1 ▸ (Below.refl _ _).alloc (Nat.le_refl _) _
  have B1 : Blk W1 w.heap.size 24 #[s] := hW1 ▸ Blk.new _ _ _
  have H1 := RdN.below h hb1
  have hrd1 : RdReg W1 (.agg #[s]) rows := ⟨s, rfl, H1⟩
  have hbd : RBd rows := ⟨by have := (vreg_len hv).1; omega, fun r hr => by have := (vreg_len hv).2 r hr; omega⟩
  obtain ⟨A, capA, rfl, hcapA, hop⟩ := rows_open H1
  have HA := Lib.hid hop
  have HRW := Lib.hid H1
  have HV := Lib.hid hv
  have HVV := Lib.hid (rvalid_iff.2 hv)
  have HBD := Lib.hid hbd
  have HRD := Lib.hid hrd1
  have s_0 : W1.cell? ⟨w.heap.size, 0, none⟩ = some (.slice A rows.length capA) := B1.cell 0
  have hl1 := B1.lt
  obtain ⟨n, hn0⟩ : ∃ n, rows.length = n := ⟨_, rfl⟩
  have HN := Lib.hid hn0
  rw [hn0] at HRW HRD hcapA hn s_0 hW1 B1 ⊢
  have HB := Lib.hid hb1
  have HBB := Lib.hid hb
  have HW1 := Lib.hid hW1
  clear hop hn0 H1 h hv B1 hb1 hb hrd1 hbd hW1
  go_enter Tryz.func22, Tryz.ntmps22
  go_wp2_with fail
  rw [HW1.out]
  (go_at_call 27; (with_reducible refine (Kin.callK (W := W1) (by repeat (first | with_reducible (first | exact blA | exact blB | refine blC _ ?_ | refine blD ?_ ?_ _ | refine blE ?_ | refine blF _ ?_ | refine blG ?_ _ | refine blH ?_ | refine blI ?_ ?_ _) | (simp only [World.size_alloc]; omega) | (simp <;> omega))) (rvalid_is _ rows _ HRD.out HBD.out HVV.out)).mono ?_); rintro e w' ⟨z1, rfl, hz1, rfl⟩; skip)
  go_wp2_with fail
  go_loopw [3, 14] (fun u i wr => ∃ k : Nat, k ≤ n ∧ i = .int .i64 k ∧ Hid (u = .int .i64 (lenTo rows k)) ∧ Hid (0 ≤ lenTo rows k ∧ lenTo rows k ≤ 1000000 * k) ∧ ∃ y : Kin W1, y.1 = wr) (fun _ i _ => n - (intOf i).toNat)
  case atStart => exact ⟨0, Nat.zero_le _, rfl, Lib.hid rfl, Lib.hid (by simp [lenTo]), z1, rfl⟩
  case round =>
    obtain ⟨k, hk, rfl, HU, HLB, y, rfl⟩ := hrel
    obtain rfl := HU.out
    by_cases hlt : k < n
    · obtain ⟨r, hr⟩ : ∃ r, rows[k]? = some r := ⟨_, List.getElem?_eq_getElem (by rw [HN.out]; exact hlt)⟩
      obtain ⟨bA, offA, rfl, hbA, hcA⟩ := HA.out k r hr
      obtain ⟨S, cS, r_0, r_1, hcS, hrS⟩ := hcA k r hr
      have hrv := HV.out.1 r (List.mem_of_getElem? hr)
      have hbr := HBB.out r (List.mem_of_getElem? hr)
      have HRR := Lib.hid hr
      have HRS := Lib.hid hrS
      have hr8 := sepIn_len (fine_sepIn.1 hrv.2).1
      have hr9 := sepIn_len (rwAt_in HV.out (r.1 - 1))
      have hr10 := sepIn_len (rwAt_in HV.out (r.1 + 1))
      have HSC := Lib.hid (lenTo_succ hr)
      have hlb := HLB.out
      obtain ⟨nr, hnr⟩ : ∃ nr, r.2.length = nr := ⟨_, rfl⟩
      have HNR := Lib.hid hnr
      rw [hnr] at r_1 hcS HRS hr8
      obtain ⟨za, hza⟩ : ∃ za, lenL (setop (opf 0) r.2 (rwAt rows (r.1 - 1))) = za := ⟨_, rfl⟩
      obtain ⟨zb, hzb⟩ : ∃ zb, lenL (setop (opf 0) r.2 (rwAt rows (r.1 + 1))) = zb := ⟨_, rfl⟩
      rw [hza, hzb] at hbr
      have HZA := Lib.hid hza
      have HZB := Lib.hid hzb
      obtain ⟨Lk, hLk⟩ : ∃ Lk, lenTo rows k = Lk := ⟨_, rfl⟩
      have HLK := Lib.hid hLk
      rw [hLk] at hlb
      have e1 : IntKind.i64.wrap (za + zb) = za + zb := IntWalk.i64_in _ (by omega)
      have e2 : IntKind.i64.wrap (2 * (nr : Int)) = 2 * (nr : Int) := IntWalk.i64_in _ (by omega)
      have e3 : IntKind.i64.wrap (za + zb + 2 * (nr : Int)) = za + zb + 2 * (nr : Int) := IntWalk.i64_in _ (by omega)
      have e4 : IntKind.i64.wrap (Lk + (za + zb + 2 * (nr : Int))) = Lk + (za + zb + 2 * (nr : Int)) := IntWalk.i64_in _ (by omega)
      clear hcA hr hrS hrv hnr hza hzb hLk
      go_wp2_with fail
      obtain ⟨W5, hW5⟩ : ∃ W5, y.1.alloc (.cells #[.int .i64 r.1, .slice S nr cS] 44) = W5 := ⟨_, rfl⟩
      obtain ⟨g5, hg5⟩ : ∃ g5, y.1.heap.size = g5 := ⟨_, rfl⟩
      have hb5 : Below y.1.heap.size y.1 W5 := hW5 ▸ (Below.refl _ _).alloc (Nat.le_refl _) _
      have k5 : Below W1.heap.size W1 W5 := y.2.trans (hb5.mono y.2.size)
      have B5 : Blk W5 g5 44 #[.int .i64 r.1, .slice S nr cS] := by rw [← hW5, ← hg5]; exact Blk.new _ _ _
      rw [hW5, hg5]
      have K5 := Lib.hid k5
      have HB5 := Lib.hid B5
      clear hW5 hg5 hb5 k5 B5
      (go_at_call 41; (with_reducible refine (Kin.callK (W := W5) (by repeat (first | with_reducible (first | exact blA | exact blB | refine blC _ ?_ | refine blD ?_ ?_ _ | refine blE ?_ | refine blF _ ?_ | refine blG ?_ _ | refine blH ?_ | refine blI ?_ ?_ _) | (simp only [World.size_alloc]; omega) | (simp <;> omega))) (around_any W1 (.slice (some ⟨bA, offA, none⟩) n capA) rows k r _ K5.out HRW.out HV.out HRR.out)).mono ?_); rintro e w' ⟨z6, ⟨u1, u2, rfl, hu1, hu2⟩, hz6, rfl⟩; skip)
      have HU1 := Lib.hid hu1
      have HU2 := Lib.hid hu2
      obtain ⟨W6, hW6⟩ : ∃ W6, z6.1 = W6 := ⟨_, rfl⟩
      rw [hW6] at hz6 ⊢
      have HK6 := Lib.hid (K5.out.trans (hz6.mono K5.out.size))
      have B6 := HB5.out.below hz6
      have HB6 := Lib.hid B6
      have c6_1 : W6.cell? ⟨g5, 1, none⟩ = some (.slice S nr cS) := B6.cell 1
      have c6_l := B6.lt
      have mixed : Tryz.prog.follows .mixedOrders = true := by kernel_rfl
      clear hu1 hu2 hz6 hW6 B6
      go_wp2_with fail
      refine wp_region_held_drew (S := fun w' => Below W6.heap.size W6 w') (by kernel_rfl) ((Below.refl _ _).drew) (fun hHeld => ?_)
      try simp only [List.size_toArray, List.length_cons, List.length_nil, Nat.zero_add, Nat.reduceAdd, List.replicate, Array.replicate]
      obtain ⟨W7, hW7⟩ : ∃ W7, W6.drew = W7 := ⟨_, rfl⟩
      rw [hW7] at hHeld ⊢
      clear hW7
      refine wpAnyH_take (i := 0) (v := ?_) rfl (by kernel_rfl) (by kernel_rfl) (by kernel_rfl) (fun _ _ _ h => h) (Or.inl ⟨by kernel_rfl, ?_⟩) (by assumption) ?_
      rotate_left
      · (intro w' hSw; have r1 := (hSw.cell (p := ⟨g5, 1, none⟩) c6_l).trans c6_1; go_simp; try with_reducible rfl)
      try simp only [List.getElem_toArray, List.getElem_cons_succ, List.getElem_cons_zero, Act.put, List.setIfInBounds_toArray, List.set_cons_zero, List.set_cons_succ]
      refine wpAnyH_take (i := 1) (v := ?_) rfl (by kernel_rfl) (by kernel_rfl) (by kernel_rfl) (fun _ _ _ h => h) (Or.inl ⟨by kernel_rfl, ?_⟩) (by assumption) ?_
      rotate_left
      · (intro w' hSw; have r1 := (hSw.cell (p := ⟨g5, 1, none⟩) c6_l).trans c6_1; go_simp; try with_reducible rfl)
      try simp only [List.getElem_toArray, List.getElem_cons_succ, List.getElem_cons_zero, Act.put, List.setIfInBounds_toArray, List.set_cons_zero, List.set_cons_succ]
      refine wpAnyH_take (i := 2) (v := ?_) rfl (by kernel_rfl) (by kernel_rfl) (by kernel_rfl) (fun _ _ _ h => h) (Or.inl ⟨by kernel_rfl, ?_⟩) (by assumption) ?_
      rotate_left
      · (intro w' hSw; have r1 := (hSw.cell (p := ⟨g5, 1, none⟩) c6_l).trans c6_1; go_simp; try with_reducible rfl)
      try simp only [List.getElem_toArray, List.getElem_cons_succ, List.getElem_cons_zero, Act.put, List.setIfInBounds_toArray, List.set_cons_zero, List.set_cons_succ]
      refine wpAnyH_take (i := 3) (v := ?_) rfl (by kernel_rfl) (by kernel_rfl) (by kernel_rfl) (fun _ _ _ h => h) (Or.inl ⟨by kernel_rfl, ?_⟩) (by assumption) ?_
      rotate_left
      · (intro w' hSw; have r1 := (hSw.cell (p := ⟨g5, 1, none⟩) c6_l).trans c6_1; go_simp; try with_reducible rfl)
      try simp only [List.getElem_toArray, List.getElem_cons_succ, List.getElem_cons_zero, Act.put, List.setIfInBounds_toArray, List.set_cons_zero, List.set_cons_succ]
      refine wpAnyH_take (i := 6) (v := ?_) rfl (by kernel_rfl) (by kernel_rfl) (by kernel_rfl) (fun _ _ _ h => h) (Or.inl ⟨by kernel_rfl, ?_⟩) (by assumption) ?_
      rotate_left
      · (intro w' hSw; have r1 := (hSw.cell (p := ⟨g5, 1, none⟩) c6_l).trans c6_1; go_simp; try with_reducible rfl)
      try simp only [List.getElem_toArray, List.getElem_cons_succ, List.getElem_cons_zero, Act.put, List.setIfInBounds_toArray, List.set_cons_zero, List.set_cons_succ]
      refine wpAnyH_take (i := 7) (v := ?_) rfl (by kernel_rfl) (by kernel_rfl) (by kernel_rfl) (fun _ _ _ h => h) (Or.inl ⟨by kernel_rfl, ?_⟩) (by assumption) ?_
      rotate_left
      · (intro w' hSw; have r1 := (hSw.cell (p := ⟨g5, 1, none⟩) c6_l).trans c6_1; go_simp; try with_reducible rfl)
      try simp only [List.getElem_toArray, List.getElem_cons_succ, List.getElem_cons_zero, Act.put, List.setIfInBounds_toArray, List.set_cons_zero, List.set_cons_succ]
      refine wpAnyH_take (i := 8) (v := ?_) rfl (by kernel_rfl) (by kernel_rfl) (by kernel_rfl) (fun _ _ _ h => h) (Or.inl ⟨by kernel_rfl, ?_⟩) (by assumption) ?_
      rotate_left
      · (intro w' hSw; have r1 := (hSw.cell (p := ⟨g5, 1, none⟩) c6_l).trans c6_1; go_simp; try with_reducible rfl)
      try simp only [List.getElem_toArray, List.getElem_cons_succ, List.getElem_cons_zero, Act.put, List.setIfInBounds_toArray, List.set_cons_zero, List.set_cons_succ]
      refine wpAnyH_take (i := 12) (v := ?_) rfl (by kernel_rfl) (by kernel_rfl) (by kernel_rfl) (fun _ _ _ h => h) (Or.inl ⟨by kernel_rfl, ?_⟩) (by assumption) ?_
      rotate_left
      · (intro w' hSw; have r1 := (hSw.cell (p := ⟨g5, 1, none⟩) c6_l).trans c6_1; go_simp; try with_reducible rfl)
      try simp only [List.getElem_toArray, List.getElem_cons_succ, List.getElem_cons_zero, Act.put, List.setIfInBounds_toArray, List.set_cons_zero, List.set_cons_succ]
      refine wpAnyH_take (i := 13) (v := ?_) rfl (by kernel_rfl) (by kernel_rfl) (by kernel_rfl) (fun _ _ _ h => h) (Or.inl ⟨by kernel_rfl, ?_⟩) (by assumption) ?_
      rotate_left
      · (intro w' hSw; have r1 := (hSw.cell (p := ⟨g5, 1, none⟩) c6_l).trans c6_1; go_simp; try with_reducible rfl)
      try simp only [List.getElem_toArray, List.getElem_cons_succ, List.getElem_cons_zero, Act.put, List.setIfInBounds_toArray, List.set_cons_zero, List.set_cons_succ]
      refine wpAnyH_take (i := 14) (v := ?_) rfl (by kernel_rfl) (by kernel_rfl) (by kernel_rfl) (fun _ _ _ h => h) (Or.inl ⟨by kernel_rfl, ?_⟩) (by assumption) ?_
      rotate_left
      · (intro w' hSw; have r1 := (hSw.cell (p := ⟨g5, 1, none⟩) c6_l).trans c6_1; go_simp; try with_reducible rfl)
      try simp only [List.getElem_toArray, List.getElem_cons_succ, List.getElem_cons_zero, Act.put, List.setIfInBounds_toArray, List.set_cons_zero, List.set_cons_succ]
      refine wpAnyH_take (i := 15) (v := ?_) rfl (by kernel_rfl) (by kernel_rfl) (by kernel_rfl) (fun _ _ _ h => h) (Or.inl ⟨by kernel_rfl, ?_⟩) (by assumption) ?_
      rotate_left
      · (intro w' hSw; have r1 := (hSw.cell (p := ⟨g5, 1, none⟩) c6_l).trans c6_1; go_simp; try with_reducible rfl)
      try simp only [List.getElem_toArray, List.getElem_cons_succ, List.getElem_cons_zero, Act.put, List.setIfInBounds_toArray, List.set_cons_zero, List.set_cons_succ]
      refine wpAnyH_ready (rs := [4]) (by kernel_rfl) (by simp) (AllReadyH.cons rfl (fun K hK => ?_) AllReadyH.nil)
      go_simp
      (go_at_call 43; (with_reducible refine (Kin.callK (W := W7) (by repeat (first | with_reducible (first | exact blA | exact blB | refine blC _ ?_ | refine blD ?_ ?_ _ | refine blE ?_ | refine blF _ ?_ | refine blG ?_ _ | refine blH ?_ | refine blI ?_ ?_ _) | (simp only [World.size_alloc]; omega) | (simp <;> omega))) (subtract_any _ _ r.2 (rwAt rows (r.1 - 1)) _ (Rd.below HRS.out (HK6.out.trans (hHeld.mono HK6.out.size))) (Rd.below HU1.out (HK6.out.trans (hHeld.mono HK6.out.size))) (by rw [HNR.out]; omega) (by omega))).mono ?_); rintro e w' ⟨z8, ⟨uA, rfl, huA⟩, hz8, rfl⟩; skip)
      simp only []
      have h8 : Below W6.heap.size W6 z8.1 := hHeld.trans (z8.2.mono hHeld.size)
      have HUA := Lib.hid huA
      clear huA
      refine hK.out _ _ (h8) (fun hHeld2 => ?_)
      clear hK hHeld
      have hHeld := hHeld2
      clear hHeld2 K
      try simp only [List.getElem_toArray, List.getElem_cons_succ, List.getElem_cons_zero, Act.put, List.setIfInBounds_toArray, List.set_cons_zero, List.set_cons_succ]
      refine wpAnyH_ready (rs := [5]) (by kernel_rfl) (by simp) (AllReadyH.cons rfl (fun K hK => ?_) AllReadyH.nil)
      go_simp
      (go_at_call 42; (with_reducible refine (Kin.callK (W := (Kin.wd z8)) (by repeat (first | with_reducible (first | exact blA | exact blB | refine blC _ ?_ | refine blD ?_ ?_ _ | refine blE ?_ | refine blF _ ?_ | refine blG ?_ _ | refine blH ?_ | refine blI ?_ ?_ _) | (simp only [World.size_alloc]; omega) | (simp <;> omega))) (lenIs _ _ _ HUA.out (Nat.le_trans (choose_len' _ _) (by rw [HNR.out]; omega)) HZA.out)).mono ?_); rintro e w' ⟨z9, rfl, hz9, rfl⟩; skip)
      simp only []
      have h9 : Below W6.heap.size W6 z9.1 := hHeld.trans (z9.2.mono hHeld.size)
      refine hK.out _ _ (h9) (fun hHeld2 => ?_)
      clear hK hHeld
      have hHeld := hHeld2
      clear hHeld2 K
      try simp only [List.getElem_toArray, List.getElem_cons_succ, List.getElem_cons_zero, Act.put, List.setIfInBounds_toArray, List.set_cons_zero, List.set_cons_succ]
      refine wpAnyH_ready (rs := [9]) (by kernel_rfl) (by simp) (AllReadyH.cons rfl (fun K hK => ?_) AllReadyH.nil)
      go_simp
      (go_at_call 43; (with_reducible refine (Kin.callK (W := (Kin.wd z9)) (by repeat (first | with_reducible (first | exact blA | exact blB | refine blC _ ?_ | refine blD ?_ ?_ _ | refine blE ?_ | refine blF _ ?_ | refine blG ?_ _ | refine blH ?_ | refine blI ?_ ?_ _) | (simp only [World.size_alloc]; omega) | (simp <;> omega))) (subtract_any _ _ r.2 (rwAt rows (r.1 + 1)) _ (Rd.below HRS.out (HK6.out.trans (hHeld.mono HK6.out.size))) (Rd.below HU2.out (HK6.out.trans (hHeld.mono HK6.out.size))) (by rw [HNR.out]; omega) (by omega))).mono ?_); rintro e w' ⟨z10, ⟨uB, rfl, huB⟩, hz10, rfl⟩; skip)
      simp only []
      have h10 : Below W6.heap.size W6 z10.1 := hHeld.trans (z10.2.mono hHeld.size)
      have HUB := Lib.hid huB
      clear huB
      refine hK.out _ _ (h10) (fun hHeld2 => ?_)
      clear hK hHeld
      have hHeld := hHeld2
      clear hHeld2 K
      try simp only [List.getElem_toArray, List.getElem_cons_succ, List.getElem_cons_zero, Act.put, List.setIfInBounds_toArray, List.set_cons_zero, List.set_cons_succ]
      refine wpAnyH_ready (rs := [10]) (by kernel_rfl) (by simp) (AllReadyH.cons rfl (fun K hK => ?_) AllReadyH.nil)
      go_simp
      (go_at_call 42; (with_reducible refine (Kin.callK (W := (Kin.wd z10)) (by repeat (first | with_reducible (first | exact blA | exact blB | refine blC _ ?_ | refine blD ?_ ?_ _ | refine blE ?_ | refine blF _ ?_ | refine blG ?_ _ | refine blH ?_ | refine blI ?_ ?_ _) | (simp only [World.size_alloc]; omega) | (simp <;> omega))) (lenIs _ _ _ HUB.out (Nat.le_trans (choose_len' _ _) (by rw [HNR.out]; omega)) HZB.out)).mono ?_); rintro e w' ⟨z11, rfl, hz11, rfl⟩; skip)
      simp only []
      have h11 : Below W6.heap.size W6 z11.1 := hHeld.trans (z11.2.mono hHeld.size)
      refine hK.out _ _ (h11) (fun hHeld2 => ?_)
      clear hK hHeld
      have hHeld := hHeld2
      clear hHeld2 K
      try simp only [List.getElem_toArray, List.getElem_cons_succ, List.getElem_cons_zero, Act.put, List.setIfInBounds_toArray, List.set_cons_zero, List.set_cons_succ]
      refine wpAnyH_take (i := 11) (v := ?_) rfl (by kernel_rfl) (by kernel_rfl) (by kernel_rfl) (fun _ _ _ h => h) (Or.inl ⟨by kernel_rfl, ?_⟩) (by assumption) ?_
      rotate_left
      · (intro w' hSw; have r1 := (hSw.cell (p := ⟨g5, 1, none⟩) c6_l).trans c6_1; go_simp; try with_reducible rfl)
      try simp only [List.getElem_toArray, List.getElem_cons_succ, List.getElem_cons_zero, Act.put, List.setIfInBounds_toArray, List.set_cons_zero, List.set_cons_succ]
      refine wpAnyH_take (i := 16) (v := ?_) rfl (by kernel_rfl) (by kernel_rfl) (by kernel_rfl) (fun _ _ _ h => h) (Or.inl ⟨by kernel_rfl, ?_⟩) (by assumption) ?_
      rotate_left
      · (intro w' hSw; have r1 := (hSw.cell (p := ⟨g5, 1, none⟩) c6_l).trans c6_1; go_simp; try with_reducible rfl)
      try simp only [List.getElem_toArray, List.getElem_cons_succ, List.getElem_cons_zero, Act.put, List.setIfInBounds_toArray, List.set_cons_zero, List.set_cons_succ]
      refine wpAnyH_take (i := 17) (v := ?_) rfl (by kernel_rfl) (by kernel_rfl) (by kernel_rfl) (fun _ _ _ h => h) (Or.inl ⟨by kernel_rfl, ?_⟩) (by assumption) ?_
      rotate_left
      · (intro w' hSw; have r1 := (hSw.cell (p := ⟨g5, 1, none⟩) c6_l).trans c6_1; go_simp; try with_reducible rfl)
      try simp only [List.getElem_toArray, List.getElem_cons_succ, List.getElem_cons_zero, Act.put, List.setIfInBounds_toArray, List.set_cons_zero, List.set_cons_succ]
      refine wpAnyH_take (i := 18) (v := ?_) rfl (by kernel_rfl) (by kernel_rfl) (by kernel_rfl) (fun _ _ _ h => h) (Or.inl ⟨by kernel_rfl, ?_⟩) (by assumption) ?_
      rotate_left
      · (intro w' hSw; have r1 := (hSw.cell (p := ⟨g5, 1, none⟩) c6_l).trans c6_1; go_simp; try with_reducible rfl)
      try simp only [List.getElem_toArray, List.getElem_cons_succ, List.getElem_cons_zero, Act.put, List.setIfInBounds_toArray, List.set_cons_zero, List.set_cons_succ]
      refine wpAnyH_done (by kernel_rfl) ?_ _
      go_wp2_with fail
      refine ⟨⟨k + 1, by omega, by go_num, Lib.hid ?_, Lib.hid ?_, ⟨z11.1, HK6.out.trans (h11.mono HK6.out.size)⟩, rfl⟩, by simp [intOf]; omega⟩
      · rw [HSC.out, HLK.out]; unfold lenRow; rw [HZA.out, HZB.out, HNR.out, IntWalk.i64_in _ (by omega)]
      · rw [HSC.out, HLK.out]; unfold lenRow; rw [HZA.out, HZB.out, HNR.out]; omega
    · have hkn : k = n := by omega
      subst hkn
      go_wp2_with fail
      go_ret
      exact ⟨rfl, HB.out.trans (y.2.mono HB.out.size)⟩
end Go.Proofs.YtneelidbgigehaaGreat
